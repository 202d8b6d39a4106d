/- Contracts of the kit's shelf for names of refs. -/
import Derived.Test.YtijidndhlgbjhaaDoorCodeN
import Derived.Test.YtijidndhlgbjhaaDoorVrPlain
namespace Go.Proofs.YtijidndhlgbjhaaDoor
open Go.RowKit
/-- internal/bytealg.MaxLen holds some number. -/
class K_MaxLen [Globs] : Prop where
  k : ∃ m, globOf 3 = some (.one (.int .i64 m))
variable [Globs]
set_option linter.unusedSectionVars false
set_option linter.unusedVariables false
set_option linter.unusedSimpArgs false

theorem hasPrefixV (s p : List UInt8) : VPure Tryd.prog 47 [ts s, ts p] (fun x => x = tb (Lib.hasPrefix s p)) := by
  have h := VPure.ofBelow (f := 47) (args := [.string (str s), .string (str p)]) (r := .bool (Lib.hasPrefix s p)) (fun F w _ => by
    have h1 := Tryd.strings_HasPrefix (str s) (str p) w
    rw [strL, strL] at h1
    refine h1.mono ?_
    rintro e w' ⟨rfl, rfl⟩
    exact ⟨rfl, below_self _⟩)
  exact h
theorem containsRuneV (s : List UInt8) (c : UInt8) (hc : c.toNat < 128) : VPure Tryd.prog 52 [ts s, .val (.int .i32 ((c.toNat : Nat) : Int))] (fun x => x = tb (decide (c ∈ s))) := by
  have h := VPure.ofBelow (f := 52) (args := [.string (str s), .int .i32 c.toNat]) (r := .bool (decide (c ∈ s))) (fun F w _ => by
    have h1 := Tryd.strings_ContainsRune_ascii (str s) c.toNat w (by omega) (by omega)
    have e2 : ((c.toNat : Int)).toNat.toUInt8 = c := by rw [Int.toNat_natCast]; simp
    have e3 : decide (0 ≤ Lib.indexByte s c) = decide (c ∈ s) := by
      rcases ixb_cases c s with ⟨h1, h2, _⟩ | ⟨k, h1, h2, h3, _⟩
      · rw [h1]; simp [h2]
      · rw [h1]; simp [List.mem_of_getElem? h3]
    rw [strL, e2, e3] at h1
    refine h1.mono ?_
    rintro e w' ⟨rfl, rfl⟩
    exact ⟨rfl, below_self _⟩)
  exact h
theorem containsV [K_MaxLen] (s p : List UInt8) (hs : s.length ≤ 100000) : VPure Tryd.prog 49 [ts s, ts p] (fun x => x = tb (Lib.contains s p)) := by
  have h := VPure.ofBelow (f := 49) (args := [.string (str s), .string (str p)]) (r := .bool (Lib.contains s p)) (fun F w hg => by
    obtain ⟨m, hm⟩ := K_MaxLen.k
    obtain ⟨_, t, fr, hh⟩ := hg _ _ hm
    have h1 := Tryd.strings_Contains (str s) (str p) m w (by rw [sizeL]; omega) (by simp [World.cell?, hh, GV.cells])
    rw [strL, strL] at h1
    refine h1.mono ?_
    rintro e w' ⟨rfl, rfl⟩
    exact ⟨rfl, below_self _⟩)
  exact h
/-- The predicate of refs.IsName. -/
def badR (r : Int) : Bool := decide (r < 33 ∨ 126 < r ∨ UInt8.ofNat r.toNat ∈ [(126 : UInt8), 94, 58, 63, 42, 91, 92])
theorem predV (r : Int) (h0 : 0 ≤ r) (h1 : r ≤ 1114111) : VPure Tryd.prog 51 [.val (.int .i32 r)] (fun x => x = tb (badR r)) := by
  refine VCalls.toPureV (go_refs_IsName_1 (by simp) ?_)
  by_cases h2 : r < 33
  · simp -dsimp (disch := first | assumption | omega) only [↓vmPre, vmPost, vmWrd, vmDat, eq_self, forall_const, Nat.reduceLT, Nat.reduceEqDiff, Nat.reduceSub, Nat.reduceMul, Nat.reduceMod, Nat.reduceDiv, Nat.reducePow, UInt8.reduceToNat, Int.reduceEq, Int.reduceLT, Int.reduceLE, ↓reduceIte, Nat.reduceEqDiff, Nat.reduceAdd, Int.reduceToNat, reduceCtorEq, Nat.reduceLeDiff, ↓u_refs_IsName_1]
    simp [badR, h2]
  by_cases h3 : 126 < r
  · simp -dsimp (disch := first | assumption | omega) only [↓vmPre, vmPost, vmWrd, vmDat, eq_self, forall_const, Nat.reduceLT, Nat.reduceEqDiff, Nat.reduceSub, Nat.reduceMul, Nat.reduceMod, Nat.reduceDiv, Nat.reducePow, UInt8.reduceToNat, Int.reduceEq, Int.reduceLT, Int.reduceLE, ↓reduceIte, Nat.reduceEqDiff, Nat.reduceAdd, Int.reduceToNat, reduceCtorEq, Nat.reduceLeDiff, ↓u_refs_IsName_1]
    simp [badR, h3]
  simp -dsimp (disch := first | assumption | omega) only [↓vmPre, vmPost, vmWrd, vmDat, eq_self, forall_const, Nat.reduceLT, Nat.reduceEqDiff, Nat.reduceSub, Nat.reduceMul, Nat.reduceMod, Nat.reduceDiv, Nat.reducePow, UInt8.reduceToNat, Int.reduceEq, Int.reduceLT, Int.reduceLE, ↓reduceIte, Nat.reduceEqDiff, Nat.reduceAdd, Int.reduceToNat, reduceCtorEq, Nat.reduceLeDiff, ↓u_refs_IsName_1]
  have e : (r : Int) = (((UInt8.ofNat r.toNat).toNat : Nat) : Int) := by rw [UInt8.toNat_ofNat', Nat.mod_eq_of_lt (by omega)]; omega
  rw [e]
  refine (containsRuneV [126, 94, 58, 63, 42, 91, 92] (UInt8.ofNat r.toNat) (by omega)).calls rfl ?_
  rintro _ rfl
  simp -dsimp (disch := first | assumption | omega) only [↓vmPre, vmPost, vmWrd, vmDat, eq_self, forall_const, Nat.reduceLT, Nat.reduceEqDiff, Nat.reduceSub, Nat.reduceMul, Nat.reduceMod, Nat.reduceDiv, Nat.reducePow, UInt8.reduceToNat, Int.reduceEq, Int.reduceLT, Int.reduceLE, ↓reduceIte, Nat.reduceEqDiff, Nat.reduceAdd, Int.reduceToNat, reduceCtorEq, Nat.reduceLeDiff, ↓u_refs_IsName_1]
  have : badR ((UInt8.ofNat r.toNat).toNat : Int) = decide (UInt8.ofNat r.toNat ∈ [(126 : UInt8), 94, 58, 63, 42, 91, 92]) := by
    rw [← e]; unfold badR; congr 1; simp only [h2, h3, false_or]
  rw [this]
theorem badR_good (c : UInt8) : badR ((c.toNat : Nat) : Int) = !goodB c := by
  unfold badR goodB
  rw [Int.toNat_natCast, UInt8.ofNat_toNat, ← decide_not]
  congr 1
  simp only [Decidable.not_and_iff_not_or_not, Decidable.not_not]
  apply propext
  constructor
  · rintro (h | h | h)
    · left; omega
    · right; left; omega
    · right; right; exact h
  · rintro (h | h | h)
    · left; omega
    · right; left; omega
    · right; right; exact h
theorem ft_beq : (false == true) = false := rfl
theorem indexFuncV (s : List UInt8) (hs : s.length ≤ 1000) : VPure Tryd.prog 167 [ts s, .val (.func (.func 51) #[] #[]), tb true] (fun x => ∃ i : Int, x = i64 i ∧ (0 ≤ i ↔ ¬ ∀ c ∈ s, goodB c = true)) := by
  refine VCalls.toPureV (go_strings_indexFunc (by simp) ?_)
  simp -dsimp (disch := first | assumption | omega) only [↓vmPre, vmPost, vmWrd, vmDat, eq_self, forall_const, Nat.reduceLT, Nat.reduceEqDiff, Nat.reduceSub, Nat.reduceMul, Nat.reduceMod, Nat.reduceDiv, Nat.reducePow, UInt8.reduceToNat, Int.reduceEq, Int.reduceLT, Int.reduceLE, ↓reduceIte, Nat.reduceEqDiff, Nat.reduceAdd, Int.reduceToNat, reduceCtorEq, Nat.reduceLeDiff, ↓u_strings_indexFunc, bl_strN]
  refine w_loop (fun q e H => ∃ pos : Nat, q = s.length - pos ∧ (∀ j x, j < pos → s[j]? = some x → goodB x = true) ∧ e = [(1, .val (.func (.func 51) #[] #[])), (2, tb true), (10, .op 0 0 [])] ∧ H = [.sit s pos]) s.length ?_ ?_
  · exact ⟨0, rfl, fun j x h => by omega, rfl, rfl⟩
  · rintro q e H ⟨pos, rfl, hno, rfl, rfl⟩
    by_cases hp : pos < s.length
    · obtain ⟨c, hc⟩ : ∃ c, s[pos]? = some c := ⟨_, List.getElem?_eq_getElem hp⟩
      by_cases h7 : c.toNat < 128
      · obtain ⟨d1, d2⟩ := decodeA s pos c hc h7
        simp -dsimp (disch := first | assumption | omega) only [↓vmPre, vmPost, vmWrd, vmDat, eq_self, forall_const, Nat.reduceLT, Nat.reduceEqDiff, Nat.reduceSub, Nat.reduceMul, Nat.reduceMod, Nat.reduceDiv, Nat.reducePow, UInt8.reduceToNat, Int.reduceEq, Int.reduceLT, Int.reduceLE, ↓reduceIte, Nat.reduceEqDiff, Nat.reduceAdd, Int.reduceToNat, reduceCtorEq, Nat.reduceLeDiff, ↓u_strings_indexFunc, d1, d2]
        refine ⟨by kernel_rfl, ?_⟩
        refine (predV ((c.toNat : Nat) : Int) (by omega) (by omega)).calls rfl ?_
        rintro _ rfl
        rw [badR_good]
        cases hgc : goodB c with
        | false =>
          simp -dsimp (disch := first | assumption | omega) only [↓vmPre, vmPost, vmWrd, vmDat, eq_self, forall_const, Nat.reduceLT, Nat.reduceEqDiff, Nat.reduceSub, Nat.reduceMul, Nat.reduceMod, Nat.reduceDiv, Nat.reducePow, UInt8.reduceToNat, Int.reduceEq, Int.reduceLT, Int.reduceLE, ↓reduceIte, Nat.reduceEqDiff, Nat.reduceAdd, Int.reduceToNat, reduceCtorEq, Nat.reduceLeDiff, ↓u_strings_indexFunc]
          exact ⟨_, rfl, fun _ hall => (by rw [hall c (List.mem_of_getElem? hc)] at hgc; cases hgc), fun _ => by omega⟩
        | true =>
          simp -dsimp (disch := first | assumption | omega) only [↓vmPre, vmPost, vmWrd, vmDat, eq_self, forall_const, Nat.reduceLT, Nat.reduceEqDiff, Nat.reduceSub, Nat.reduceMul, Nat.reduceMod, Nat.reduceDiv, Nat.reducePow, UInt8.reduceToNat, Int.reduceEq, Int.reduceLT, Int.reduceLE, ↓reduceIte, Nat.reduceEqDiff, Nat.reduceAdd, Int.reduceToNat, reduceCtorEq, Nat.reduceLeDiff, ↓u_strings_indexFunc, ft_beq]
          refine Rnd_keep (s.length - (pos + 1)) (by omega) (by simp) ⟨pos + 1, rfl, fun j x hj hx => ?_, rfl, rfl⟩
          by_cases e : j = pos
          · subst e; rw [hc] at hx; cases hx; exact hgc
          · exact hno j x (by omega) hx
      · obtain ⟨d1, d2, d3⟩ := decodeHi s pos c hc (by omega)
        simp -dsimp (disch := first | assumption | omega) only [↓vmPre, vmPost, vmWrd, vmDat, eq_self, forall_const, Nat.reduceLT, Nat.reduceEqDiff, Nat.reduceSub, Nat.reduceMul, Nat.reduceMod, Nat.reduceDiv, Nat.reducePow, UInt8.reduceToNat, Int.reduceEq, Int.reduceLT, Int.reduceLE, ↓reduceIte, Nat.reduceEqDiff, Nat.reduceAdd, Int.reduceToNat, reduceCtorEq, Nat.reduceLeDiff, ↓u_strings_indexFunc]
        generalize (Utf8.decode (str s) pos).1 = r at *
        generalize (Utf8.decode (str s) pos).2 = k at *
        refine ⟨by kernel_rfl, ?_⟩
        refine (predV (r : Int) (by omega) (by omega)).calls rfl ?_
        rintro _ rfl
        have e : badR (r : Int) = true := by unfold badR; rw [decide_eq_true_eq]; right; left; omega
        rw [e]
        simp -dsimp (disch := first | assumption | omega) only [↓vmPre, vmPost, vmWrd, vmDat, eq_self, forall_const, Nat.reduceLT, Nat.reduceEqDiff, Nat.reduceSub, Nat.reduceMul, Nat.reduceMod, Nat.reduceDiv, Nat.reducePow, UInt8.reduceToNat, Int.reduceEq, Int.reduceLT, Int.reduceLE, ↓reduceIte, Nat.reduceEqDiff, Nat.reduceAdd, Int.reduceToNat, reduceCtorEq, Nat.reduceLeDiff, ↓u_strings_indexFunc]
        refine ⟨_, rfl, fun _ hall => ?_, fun _ => by omega⟩
        have := hall c (List.mem_of_getElem? hc)
        unfold goodB at this
        rw [decide_eq_true_eq] at this
        omega
    · simp -dsimp (disch := first | assumption | omega) only [↓vmPre, vmPost, vmWrd, vmDat, eq_self, forall_const, Nat.reduceLT, Nat.reduceEqDiff, Nat.reduceSub, Nat.reduceMul, Nat.reduceMod, Nat.reduceDiv, Nat.reducePow, UInt8.reduceToNat, Int.reduceEq, Int.reduceLT, Int.reduceLE, ↓reduceIte, Nat.reduceEqDiff, Nat.reduceAdd, Int.reduceToNat, reduceCtorEq, Nat.reduceLeDiff, ↓u_strings_indexFunc]
      refine ⟨-1, rfl, fun h => by omega, fun h => absurd (fun c hc => ?_) h⟩
      obtain ⟨j, hj, rfl⟩ := List.mem_iff_getElem.1 hc
      exact hno j _ (by omega) (List.getElem?_eq_getElem hj)
theorem containsFuncV (s : List UInt8) (hs : s.length ≤ 1000) : VPure Tryd.prog 50 [ts s, .val (.func (.func 51) #[] #[])] (fun x => ∃ b, x = tb b ∧ (b = true ↔ ¬ ∀ c ∈ s, goodB c = true)) := by
  refine VCalls.toPureV (go_strings_ContainsFunc (by simp) ?_)
  simp -dsimp (disch := first | assumption | omega) only [↓vmPre, vmPost, vmWrd, vmDat, eq_self, forall_const, Nat.reduceLT, Nat.reduceEqDiff, Nat.reduceSub, Nat.reduceMul, Nat.reduceMod, Nat.reduceDiv, Nat.reducePow, UInt8.reduceToNat, Int.reduceEq, Int.reduceLT, Int.reduceLE, ↓reduceIte, Nat.reduceEqDiff, Nat.reduceAdd, Int.reduceToNat, reduceCtorEq, Nat.reduceLeDiff, ↓u_strings_ContainsFunc]
  refine go_strings_IndexFunc (by simp) ?_
  simp -dsimp (disch := first | assumption | omega) only [↓vmPre, vmPost, vmWrd, vmDat, eq_self, forall_const, Nat.reduceLT, Nat.reduceEqDiff, Nat.reduceSub, Nat.reduceMul, Nat.reduceMod, Nat.reduceDiv, Nat.reducePow, UInt8.reduceToNat, Int.reduceEq, Int.reduceLT, Int.reduceLE, ↓reduceIte, Nat.reduceEqDiff, Nat.reduceAdd, Int.reduceToNat, reduceCtorEq, Nat.reduceLeDiff, ↓u_strings_IndexFunc]
  refine (indexFuncV s hs).calls rfl ?_
  rintro _ ⟨i, rfl, hi⟩
  simp -dsimp (disch := first | assumption | omega) only [↓vmPre, vmPost, vmWrd, vmDat, eq_self, forall_const, Nat.reduceLT, Nat.reduceEqDiff, Nat.reduceSub, Nat.reduceMul, Nat.reduceMod, Nat.reduceDiv, Nat.reducePow, UInt8.reduceToNat, Int.reduceEq, Int.reduceLT, Int.reduceLE, ↓reduceIte, Nat.reduceEqDiff, Nat.reduceAdd, Int.reduceToNat, reduceCtorEq, Nat.reduceLeDiff, ↓u_strings_IndexFunc, ↓u_strings_ContainsFunc]
  exact ⟨_, rfl, by rw [decide_eq_true_eq]; exact hi⟩
end Go.Proofs.YtijidndhlgbjhaaDoor
