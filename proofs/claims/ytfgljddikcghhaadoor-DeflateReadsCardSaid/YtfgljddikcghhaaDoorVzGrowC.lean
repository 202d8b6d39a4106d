import Derived.Test.YtfgljddikcghhaaDoorVzGrow
import Derived.Test.YtfgljddikcghhaaDoorVzTreeL
import Derived.Test.YtfgljddikcghhaaDoorVzRBlocks
namespace Go.Proofs.YtfgljddikcghhaaDoor
open Go.RowKit
variable [Globs]
set_option linter.unusedSectionVars false
set_option linter.unusedVariables false
set_option linter.unusedSimpArgs false

section
omit [Globs]
theorem closed_set {T : List (Int × Int)} (h : Closed' T) {a : Nat} {b : Bool} {v : Int} (hv : -1000000 ≤ v ∧ v < T.length) : Closed' (setT T a b v) := by
 unfold setT
 split
 ·rename_i p hp
  intro q hq
  rw [List.length_set]
  rcases List.mem_or_eq_of_mem_set hq with hq | rfl
  ·exact h q hq
  ·have := h p (List.mem_of_getElem? hp)
   cases b
   ·exact ⟨hv, this.2⟩
   ·exact ⟨this.1, hv⟩
 ·exact h
theorem closed_app {T : List (Int × Int)} (h : Closed' T) : Closed' (T ++ [(0, 0)]) := by
 intro q hq
 rw [List.length_append, List.length_singleton]
 rcases List.mem_append.1 hq with hq | hq
 ·have := h q hq
  push_cast
  omega
 ·rw [List.mem_singleton] at hq
  subst hq
  push_cast
  refine ⟨⟨?_, ?_⟩, ?_, ?_⟩ <;> (try simp only) <;> omega
theorem closed_add : ∀ (n : Nat) {T : List (Int × Int)} (a code s : Nat), Closed' T → 0 < T.length → s ≤ 999000 → Closed' (addT n T a code s) ∧ 0 < (addT n T a code s).length
 | 0, T, a, code, s, h, h0, hs => by
  rw [addT]
  exact ⟨closed_set h (by omega), by rw [setT_len]; exact h0⟩
 | n + 1, T, a, code, s, h, h0, hs => by
  rw [addT]
  split
  ·refine closed_add n _ _ _ (closed_set (closed_app h) ?_) (by rw [setT_len, List.length_append]; omega) hs
   rw [List.length_append, List.length_singleton]
   push_cast
   omega
  ·exact closed_add n _ _ _ h h0 hs
theorem closed_grow (ls : List Nat) (hl : ls.length ≤ 1000) : ∀ i, i ≤ ls.length → Closed' (growT ls i) ∧ 0 < (growT ls i).length
 | 0, _ => by
  refine ⟨fun q hq => ?_, by simp [growT]⟩
  rw [growT, List.mem_singleton] at hq
  subst hq
  simp [growT]
 | i + 1, hi => by
  obtain ⟨h1, h2⟩ := closed_grow ls hl i (by omega)
  rw [growT]
  split
  ·exact closed_add _ _ _ _ h1 h2 (by omega)
  ·exact ⟨h1, h2⟩
end
/-- A tree that reads as the code of these lengths. -/
def IsTree (ls : List Nat) (T : List (Int × Int)) : Prop := Closed' T ∧ 0 < T.length ∧ symT T 0 = rdR ls
theorem growC {ls : List Nat} {few non : Bool} (hl : ls.length ≤ 1000) (h15 : ∀ n ∈ ls, n ≤ 15) :
  VFreshP Tryd.prog 28 [nats ls, tb few, tb non] (fun x => okC ls few non = true ∧ ∃ T, x = treeS T ∧ IsTree ls T) (fun u => okC ls few non = false ∧ u = errE 10) := by
 refine (growV hl h15 fun hok => grow_ok h15 hok).mono ?_ ?_
 ·rintro x ⟨h1, rfl⟩
  obtain ⟨k1, k2⟩ := closed_grow ls hl ls.length (Nat.le_refl _)
  exact ⟨(okC_iff ls few non).2 h1, _, rfl, k1, k2, sym_eq h15 h1.1⟩
 ·rintro u ⟨h1, rfl⟩
  refine ⟨?_, rfl⟩
  cases h : okC ls few non with
  | false => rfl
  | true => exact absurd ((okC_iff ls few non).1 h) h1
end Go.Proofs.YtfgljddikcghhaaDoor

