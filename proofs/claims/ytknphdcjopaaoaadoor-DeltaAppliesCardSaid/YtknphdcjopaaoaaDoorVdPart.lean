/- The document's own reading of a copy's numbers, as the machine of values has it. -/
import Derived.Test.YtknphdcjopaaoaaDoorVdRef
import Derived.Test.YtknphdcjopaaoaaDoorCodeE
namespace Go.Proofs.YtknphdcjopaaoaaDoor
open Go.RowKit
set_option linter.unusedVariables false
set_option linter.unusedSimpArgs false

/-- What the document's `part` tells of bytes: as the program's reader, or no. -/
def PartIs (g : Nat × List UInt8 × Bool) (x : TV) : Prop := ∃ (n : Nat) (r : List UInt8) (ok : Bool), x = .tup [i64 n, slB r, tb ok] ∧ r.length ≤ 1000000 ∧ n < 2 ^ 32 ∧ (ok = true → g = (n, r, false)) ∧ (ok = false → g.2.2 = true)

theorem nbG_bad : ∀ (f w i n : Nat) (r : List UInt8), (nbG f w i n r true).2.2 = true
  | 0, _, _, _, _ => rfl
  | f + 1, w, i, n, r => by
    rw [nbG]
    split
    · cases r with
      | nil => exact nbG_bad f _ _ _ _
      | cons b r => exact nbG_bad f _ _ _ _
    · exact nbG_bad f _ _ _ _

theorem nbG_mod : ∀ (f w i n : Nat) (r : List UInt8) (bad : Bool), nbG f (w % 2 ^ f) i n r bad = nbG f w i n r bad
  | 0, _, _, _, _, _ => rfl
  | f + 1, w, i, n, r, bad => by
    have h1 : w % 2 ^ (f + 1) % 2 = w % 2 := by rw [Nat.pow_succ, Nat.mul_comm, Nat.mod_mul_right_mod]
    have h2 : w % 2 ^ (f + 1) / 2 = w / 2 % 2 ^ f := by rw [Nat.pow_succ, Nat.mul_comm, Nat.mod_mul_right_div_self]
    rw [nbG, nbG, h1, h2, nbG_mod f, nbG_mod f]
theorem nbG_more : ∀ (f w i n : Nat) (r : List UInt8) (bad : Bool), w < 2 ^ f → nbG (f + 1) w i n r bad = nbG f w i n r bad
  | 0, w, _, _, _, _, h => by rw [show w = 0 from by omega]; exact nbG_zero
  | f + 1, w, i, n, r, bad, h => by
    have h2 : w / 2 < 2 ^ f := by rw [Nat.pow_succ] at h; omega
    rw [nbG]
    conv => rhs; rw [nbG]
    rw [nbG_more f (w / 2) _ _ _ _ h2, nbG_more f (w / 2) _ _ _ _ h2]

theorem refPart (b : List UInt8) (w0 lo hi : Nat) (hl : b.length ≤ 1000000) (hw : w0 < 256) (hlo : lo ≤ hi) (hh : hi ≤ 7) (hlh : hi < lo + 4) : VPure Tryd.prog 40 [slB b, i64 w0, i64 lo, i64 hi] (PartIs (nbG (hi + 1 - lo) (w0 / 2 ^ lo) 0 0 b false)) := by
  refine VCalls.toPureV (go_ref4_part (by simp) ?_)
  simp -dsimp (disch := first | assumption | omega) only [↓vmPre, vmPost, vmWrd, vmDat, eq_self, forall_const, Nat.reduceLT, Nat.reduceEqDiff, Nat.reduceSub, Nat.reduceMul, Nat.reduceMod, Nat.reduceDiv, Nat.reducePow, UInt8.reduceToNat, Int.reduceEq, Int.reduceLT, Int.reduceLE, ↓reduceIte, Nat.reduceEqDiff, Nat.reduceAdd, Int.reduceToNat, reduceCtorEq, Nat.reduceLeDiff, ↓u_ref4_part]
  refine w_loop (fun m e H' => ∃ (k n : Nat) (r : List UInt8), m = hi + 1 - k ∧ lo ≤ k ∧ k ≤ hi + 1 ∧ n < 2 ^ (8 * (k - lo)) ∧ r.length ≤ 1000000 ∧ nbG (hi + 1 - k) (w0 / 2 ^ k) (k - lo) n r false = nbG (hi + 1 - lo) (w0 / 2 ^ lo) 0 0 b false ∧ e = [(0, slB r), (1, i64 w0), (2, i64 lo), (3, i64 hi), (11, i64 n), (12, i64 k)] ∧ H' = []) (hi + 1 - lo) ?_ ?_
  · exact ⟨lo, 0, b, rfl, by omega, by omega, by simp, hl, by rw [Nat.sub_self], rfl, rfl⟩
  · rintro m e H' ⟨k, n, r, rfl, hk1, hk2, hn, hr, he, rfl, rfl⟩
    simp -dsimp (disch := first | assumption | omega) only [↓vmPre, vmPost, vmWrd, vmDat, eq_self, forall_const, Nat.reduceLT, Nat.reduceEqDiff, Nat.reduceSub, Nat.reduceMul, Nat.reduceMod, Nat.reduceDiv, Nat.reducePow, UInt8.reduceToNat, Int.reduceEq, Int.reduceLT, Int.reduceLE, ↓reduceIte, Nat.reduceEqDiff, Nat.reduceAdd, Int.reduceToNat, reduceCtorEq, Nat.reduceLeDiff, ↓u_ref4_part]
    refine vif_cases (fun hk => ?_) (fun hk => ?_)
    · obtain ⟨f, hf⟩ : ∃ f, hi + 1 - k = f + 1 := ⟨hi - k, by omega⟩
      have hd : w0 / 2 ^ (k + 1) = w0 / 2 ^ k / 2 := by rw [Nat.pow_succ, Nat.div_div_eq_div_mul]
      have hx : 2 ^ (8 * (k - lo)) ≤ 2 ^ 24 := Nat.pow_le_pow_right (by omega) (by omega)
      have hp : 2 ^ (8 * (k + 1 - lo)) = 256 * 2 ^ (8 * (k - lo)) := by
        rw [show 8 * (k + 1 - lo) = 8 + 8 * (k - lo) from by omega, Nat.pow_add]
      rw [hf, nbG] at he
      simp -dsimp (disch := first | assumption | omega) only [↓vmPre, vmPost, vmWrd, vmDat, eq_self, forall_const, Nat.reduceLT, Nat.reduceEqDiff, Nat.reduceSub, Nat.reduceMul, Nat.reduceMod, Nat.reduceDiv, Nat.reducePow, UInt8.reduceToNat, Int.reduceEq, Int.reduceLT, Int.reduceLE, ↓reduceIte, Nat.reduceEqDiff, Nat.reduceAdd, Int.reduceToNat, reduceCtorEq, Nat.reduceLeDiff, ↓u_ref4_part]
      refine vif_cases (fun h0 => ?_) (fun h0 => ?_)
      · simp -dsimp (disch := first | assumption | omega) only [↓vmPre, vmPost, vmWrd, vmDat, eq_self, forall_const, Nat.reduceLT, Nat.reduceEqDiff, Nat.reduceSub, Nat.reduceMul, Nat.reduceMod, Nat.reduceDiv, Nat.reducePow, UInt8.reduceToNat, Int.reduceEq, Int.reduceLT, Int.reduceLE, ↓reduceIte, Nat.reduceEqDiff, Nat.reduceAdd, Int.reduceToNat, reduceCtorEq, Nat.reduceLeDiff, ↓u_ref4_part]
        rw [if_neg (by omega)] at he
        exact Rnd_keep (hi + 1 - (k + 1)) (by omega) (by simp) ⟨k + 1, n, r, rfl, by omega, by omega, by omega, hr, by rw [show hi + 1 - (k + 1) = f from by omega, hd, show k + 1 - lo = k - lo + 1 from by omega]; exact he, rfl, rfl⟩
      · rw [if_pos (by omega)] at he
        cases r with
        | nil =>
          simp -dsimp (disch := first | assumption | omega) only [↓vmPre, vmPost, vmWrd, vmDat, eq_self, forall_const, Nat.reduceLT, Nat.reduceEqDiff, Nat.reduceSub, Nat.reduceMul, Nat.reduceMod, Nat.reduceDiv, Nat.reducePow, UInt8.reduceToNat, Int.reduceEq, Int.reduceLT, Int.reduceLE, ↓reduceIte, Nat.reduceEqDiff, Nat.reduceAdd, Int.reduceToNat, reduceCtorEq, Nat.reduceLeDiff, ↓u_ref4_part]
          exact ⟨0, [], false, rfl, by simp, by omega, (fun h => by cases h), fun _ => by rw [← he]; exact nbG_bad _ _ _ _ _⟩
        | cons y r =>
          have hy := y.toNat_lt
          have hm : y.toNat * 2 ^ (8 * (k - lo)) ≤ 255 * 2 ^ (8 * (k - lo)) := Nat.mul_le_mul_right _ (by omega)
          have hor := or_add (x := y.toNat) hn
          simp only [rdB, hor] at he
          simp only [List.length_cons] at hr
          simp -dsimp (disch := first | assumption | omega) only [↓vmPre, vmPost, vmWrd, vmDat, eq_self, forall_const, Nat.reduceLT, Nat.reduceEqDiff, Nat.reduceSub, Nat.reduceMul, Nat.reduceMod, Nat.reduceDiv, Nat.reducePow, UInt8.reduceToNat, Int.reduceEq, Int.reduceLT, Int.reduceLE, ↓reduceIte, Nat.reduceEqDiff, Nat.reduceAdd, Int.reduceToNat, reduceCtorEq, Nat.reduceLeDiff, ↓u_ref4_part]
          exact Rnd_keep (hi + 1 - (k + 1)) (by omega) (by simp) ⟨k + 1, _, r, rfl, by omega, by omega, by omega, by omega, by rw [show hi + 1 - (k + 1) = f from by omega, hd, show k + 1 - lo = k - lo + 1 from by omega]; exact he, rfl, rfl⟩
    · rw [show hi + 1 - k = 0 from by omega, nbG] at he
      simp -dsimp (disch := first | assumption | omega) only [↓vmPre, vmPost, vmWrd, vmDat, eq_self, forall_const, Nat.reduceLT, Nat.reduceEqDiff, Nat.reduceSub, Nat.reduceMul, Nat.reduceMod, Nat.reduceDiv, Nat.reducePow, UInt8.reduceToNat, Int.reduceEq, Int.reduceLT, Int.reduceLE, ↓reduceIte, Nat.reduceEqDiff, Nat.reduceAdd, Int.reduceToNat, reduceCtorEq, Nat.reduceLeDiff, ↓u_ref4_part]
      have hx : 2 ^ (8 * (k - lo)) ≤ 2 ^ 32 := Nat.pow_le_pow_right (by omega) (by omega)
      exact ⟨n, r, true, rfl, hr, by omega, fun _ => he.symm, fun h => by cases h⟩
end Go.Proofs.YtknphdcjopaaoaaDoor
