/- What a ref's name is: plain laws. No program in sight. -/
import Derived.Test.YtijidndhlgbjhaaDoorVkName
namespace Go.Proofs.YtijidndhlgbjhaaDoor
open Go.RowKit
variable [Globs]
set_option linter.unusedSectionVars false
set_option linter.unusedVariables false

section
omit [Globs]
/-- These two stand side by side. -/
def Pair (a b : UInt8) (s : List UInt8) : Prop := ∃ j : Nat, s[j]? = some a ∧ s[j + 1]? = some b
theorem pair_cons {a b c : UInt8} {s : List UInt8} : Pair a b (c :: s) ↔ (c = a ∧ s[0]? = some b) ∨ Pair a b s := by
  constructor
  · rintro ⟨j, h1, h2⟩
    cases j with
    | zero => simp at h1 h2; exact .inl ⟨h1, by simpa using h2⟩
    | succ j => exact .inr ⟨j, by simpa using h1, by simpa using h2⟩
  · rintro (⟨rfl, h⟩ | ⟨j, h1, h2⟩)
    · exact ⟨0, rfl, by simpa using h⟩
    · exact ⟨j + 1, by simpa using h1, by simpa using h2⟩
theorem index_two (a b : UInt8) : ∀ s : List UInt8, 0 ≤ Lib.index s [a, b] ↔ Pair a b s
  | [] => by simp [Lib.index, Pair]
  | c :: l => by
    have ih := index_two a b l
    have hg := Lib.index_ge l [a, b]
    rw [pair_cons, ← ih, Lib.index]
    have hp : ([a, b].isPrefixOf (c :: l)) = true ↔ (c = a ∧ l[0]? = some b) := by
      cases l with
      | nil => simp [List.isPrefixOf]
      | cons d l => simp only [List.isPrefixOf, Bool.and_true, Bool.and_eq_true, beq_iff_eq, List.getElem?_cons_zero, Option.some.injEq]; exact ⟨fun h => ⟨h.1.symm, h.2.symm⟩, fun h => ⟨h.1.symm, h.2.symm⟩⟩
    by_cases h : ([a, b].isPrefixOf (c :: l)) = true
    · rw [if_pos h]; exact ⟨fun _ => .inl (hp.1 h), fun _ => Int.le_refl 0⟩
    · rw [if_neg h]
      have h' : ¬ (c = a ∧ l[0]? = some b) := fun k => h (hp.2 k)
      simp only [h', false_or]
      by_cases h2 : (Lib.index l [a, b] == -1) = true
      · rw [if_pos h2]
        have h3 : Lib.index l [a, b] = -1 := by simpa using h2
        rw [h3]
      · rw [if_neg h2]
        have h3 : Lib.index l [a, b] ≠ -1 := fun e => h2 (by rw [e]; rfl)
        omega
theorem contains_two (a b : UInt8) (s : List UInt8) : Lib.contains s [a, b] = true ↔ Pair a b s := by
  unfold Lib.contains; rw [decide_eq_true_eq]; exact index_two a b s
/-- May it stand in a name? -/
def goodB (c : UInt8) : Bool := decide (33 ≤ c.toNat ∧ c.toNat ≤ 126 ∧ c ∉ [(126 : UInt8), 94, 58, 63, 42, 91, 92])
/-- May it be a part of a name? -/
def partB (p : List UInt8) : Bool := decide (p ≠ [] ∧ p[0]? ≠ some 46 ∧ ¬ (5 ≤ p.length ∧ p.drop (p.length - 5) = [46, 108, 111, 99, 107]))
def refP (s : List UInt8) : Prop := s = [72, 69, 65, 68] ∨ (s.length ≤ 60 ∧ s.take 5 = [114, 101, 102, 115, 47] ∧ s[s.length - 1]? ≠ some 46 ∧ ¬ Pair 46 46 s ∧ ¬ Pair 64 123 s ∧ (∀ c ∈ s, goodB c = true) ∧ (pieces 47 s).all partB = true)
theorem hasSuf_lock (p : List UInt8) : Lib.hasSuffix p [46, 108, 111, 99, 107] = true ↔ (5 ≤ p.length ∧ p.drop (p.length - 5) = [46, 108, 111, 99, 107]) := by
  unfold Lib.hasSuffix
  rw [List.isSuffixOf_iff_suffix]
  constructor
  · rintro ⟨t, rfl⟩
    simp
  · rintro ⟨h1, h2⟩
    exact ⟨p.take (p.length - 5), by rw [← h2]; exact List.take_append_drop _ _⟩
theorem hasSuf_one (p : List UInt8) (c : UInt8) : Lib.hasSuffix p [c] = true ↔ p[p.length - 1]? = some c := by
  unfold Lib.hasSuffix
  rw [List.isSuffixOf_iff_suffix]
  constructor
  · rintro ⟨t, rfl⟩
    simp
  · intro h
    obtain ⟨hl, rfl⟩ := List.getElem?_eq_some_iff.1 h
    refine ⟨p.take (p.length - 1), ?_⟩
    have e : p ≠ [] := by intro e; subst e; simp at hl
    have h2 : p.drop (p.length - 1) = [p[p.length - 1]] := by
      rw [List.drop_eq_getElem_cons hl, List.drop_eq_nil_of_le (by omega)]
    rw [← h2]; exact List.take_append_drop _ _
theorem hasPre_refs (p : List UInt8) : Lib.hasPrefix p [114, 101, 102, 115, 47] = true ↔ p.take 5 = [114, 101, 102, 115, 47] := by
  unfold Lib.hasPrefix
  rw [List.isPrefixOf_iff_prefix, List.prefix_iff_eq_take]
  exact eq_comm
theorem refs_six {s : List UInt8} (h : s.length < 6) : ¬ ((s.take 5 = [114, 101, 102, 115, 47]) ∧ (pieces 47 s).all partB = true) := by
  rintro ⟨h1, h2⟩
  rw [List.take_of_length_le (by omega)] at h1
  subst h1
  revert h2
  decide
end
end Go.Proofs.YtijidndhlgbjhaaDoor
