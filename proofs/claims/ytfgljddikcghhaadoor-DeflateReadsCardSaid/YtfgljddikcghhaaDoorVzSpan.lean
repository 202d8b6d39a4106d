import Derived.Test.YtfgljddikcghhaaDoorVzRead
import Derived.Test.YtfgljddikcghhaaDoorCodeJ
namespace Go.Proofs.YtfgljddikcghhaaDoor
open Go.RowKit
variable [Globs]
set_option linter.unusedSectionVars false
set_option linter.unusedVariables false
set_option linter.unusedSimpArgs false

/-- The program's. -/
def spanP (f g k : Nat) : Nat × Nat := if k / g ≤ 1 then (f + k, 0) else (f + g * 2 ^ (k / g - 1) + k % g * 2 ^ (k / g - 1), k / g - 1)
/-- The document's. -/
def spanR (f g : Nat) : Nat → Nat × Nat
 | 0 => (f, 0)
 | i + 1 => ((spanR f g i).1 + 2 ^ (spanR f g i).2, if 2 * g ≤ i + 1 ∧ (i + 1) % g = 0 then (spanR f g i).2 + 1 else (spanR f g i).2)
abbrev spn (p : Nat × Nat) : TV := .agg [i64 (p.1 : Int), i64 (p.2 : Int)]
theorem spanOfV (k f g : Nat) (hk : k ≤ 30) (hf : f ≤ 3) (hg : g = 4 ∨ g = 2) : VPure Tryd.prog 58 [i64 (k : Int), i64 (f : Int), i64 (g : Int)] (fun x => x = spn (spanP f g k)) := by
 refine VCalls.toPureV (go_deflate_spanOf (by simp) ?_)
 have g0 : g ≠ 0 := by omega
 have hq : k / g ≤ 15 := by rcases hg with rfl | rfl <;> omega
 have hr : k % g < g := Nat.mod_lt _ (by omega)
 unfold spanP
 by_cases h1 : k / g ≤ 1
 ·rw [if_pos h1]
  by_cases h2 : k / g = 0
  ·simp -dsimp (disch := first | assumption | omega) only [↓vmPre, vmPost, vmWrd, vmDat, eq_self, forall_const, Nat.reduceLT, Nat.reduceEqDiff, Nat.reduceSub, Nat.reduceMul, Nat.reduceMod, Nat.reduceDiv, Nat.reducePow, UInt8.reduceToNat, Int.reduceEq, Int.reduceLT, Int.reduceLE, ↓reduceIte, Nat.reduceAdd, Int.reduceToNat, reduceCtorEq, Nat.reduceLeDiff, ↓u_deflate_spanOf]
  ·have h3 : k / g = 1 := Nat.le_antisymm h1 (Nat.one_le_iff_ne_zero.2 h2)
   simp -dsimp (disch := first | assumption | omega) only [↓vmPre, vmPost, vmWrd, vmDat, eq_self, forall_const, Nat.reduceLT, Nat.reduceEqDiff, Nat.reduceSub, Nat.reduceMul, Nat.reduceMod, Nat.reduceDiv, Nat.reducePow, UInt8.reduceToNat, Int.reduceEq, Int.reduceLT, Int.reduceLE, ↓reduceIte, Nat.reduceAdd, Int.reduceToNat, reduceCtorEq, Nat.reduceLeDiff, ↓u_deflate_spanOf, h3]
 ·rw [if_neg h1]
  have hpw : ∀ b, b ≤ 15 → g * 2 ^ b ≤ 4 * 2 ^ 15 := fun b hb => Nat.mul_le_mul (by omega) (Nat.pow_le_pow_right (by omega) hb)
  have hrw : k % g * 2 ^ (k / g - 1) ≤ 4 * 2 ^ 15 := Nat.mul_le_mul (by omega) (Nat.pow_le_pow_right (by omega) (by omega))
  have hp1 := hpw (k / g - 1) (by omega)
  simp -dsimp (disch := first | assumption | omega) only [↓vmPre, vmPost, vmWrd, vmDat, eq_self, forall_const, Nat.reduceLT, Nat.reduceEqDiff, Nat.reduceSub, Nat.reduceMul, Nat.reduceMod, Nat.reduceDiv, Nat.reducePow, UInt8.reduceToNat, Int.reduceEq, Int.reduceLT, Int.reduceLE, ↓reduceIte, Nat.reduceAdd, Int.reduceToNat, reduceCtorEq, Nat.reduceLeDiff, ↓u_deflate_spanOf]
  refine w_loop (fun q e H => ∃ b : Nat, q = k / g - 1 - b ∧ 1 ≤ b ∧ b ≤ k / g - 1 ∧ e = [(0, i64 (k : Int)), (2, i64 (g : Int)), (6, .op 0 0 []), (7, i64 ((k / g - 1 : Nat) : Int)), (8, i64 ((f + g * 2 ^ b : Nat) : Int)), (9, i64 (b : Int))] ∧ H = [.obj 0 (.agg [i64 ((0 : Nat) : Int), i64 ((0 : Nat) : Int)])]) (k / g - 2) ?_ ?_
  ·exact ⟨1, by omega, by omega, by omega, by rw [show f + g * 2 ^ 1 = f + 2 * g by omega]; rfl, rfl⟩
  ·rintro q e H ⟨b, rfl, hb1, hb2, rfl, rfl⟩
   have hp2 := hpw b (by omega)
   by_cases hlt : b < k / g - 1
   ·simp -dsimp (disch := first | assumption | omega) only [↓vmPre, vmPost, vmWrd, vmDat, eq_self, forall_const, Nat.reduceLT, Nat.reduceEqDiff, Nat.reduceSub, Nat.reduceMul, Nat.reduceMod, Nat.reduceDiv, Nat.reducePow, UInt8.reduceToNat, Int.reduceEq, Int.reduceLT, Int.reduceLE, ↓reduceIte, Nat.reduceAdd, Int.reduceToNat, reduceCtorEq, Nat.reduceLeDiff, ↓u_deflate_spanOf]
    exact Rnd_keep (k / g - 1 - (b + 1)) (by omega) (by simp) ⟨b + 1, rfl, by omega, by omega, by rw [show f + g * 2 ^ (b + 1) = f + g * 2 ^ b + g * 2 ^ b by rw [Nat.pow_succ, ← Nat.mul_assoc]; omega]; rfl, rfl⟩
   ·have hbe : b = k / g - 1 := by omega
    subst hbe
    simp -dsimp (disch := first | assumption | omega) only [↓vmPre, vmPost, vmWrd, vmDat, eq_self, forall_const, Nat.reduceLT, Nat.reduceEqDiff, Nat.reduceSub, Nat.reduceMul, Nat.reduceMod, Nat.reduceDiv, Nat.reducePow, UInt8.reduceToNat, Int.reduceEq, Int.reduceLT, Int.reduceLE, ↓reduceIte, Nat.reduceAdd, Int.reduceToNat, reduceCtorEq, Nat.reduceLeDiff, ↓u_deflate_spanOf]
theorem lengthSpanV (s : Nat) (h : 257 ≤ s ∧ s ≤ 285) : VPure Tryd.prog 44 [i64 (s : Int)] (fun x => x = spn (if s = 285 then (258, 0) else spanP 3 4 (s - 257))) := by
 refine VCalls.toPureV (go_deflate_lengthSpan (by simp) ?_)
 obtain ⟨h1, h2⟩ := h
 by_cases h3 : s = 285
 ·subst h3
  simp -dsimp (disch := first | assumption | omega) only [↓vmPre, vmPost, vmWrd, vmDat, eq_self, forall_const, Nat.reduceLT, Nat.reduceEqDiff, Nat.reduceSub, Nat.reduceMul, Nat.reduceMod, Nat.reduceDiv, Nat.reducePow, UInt8.reduceToNat, Int.reduceEq, Int.reduceLT, Int.reduceLE, ↓reduceIte, Nat.reduceAdd, Int.reduceToNat, reduceCtorEq, Nat.reduceLeDiff, ↓u_deflate_lengthSpan]
 ·rw [if_neg h3]
  simp -dsimp (disch := first | assumption | omega) only [↓vmPre, vmPost, vmWrd, vmDat, eq_self, forall_const, Nat.reduceLT, Nat.reduceEqDiff, Nat.reduceSub, Nat.reduceMul, Nat.reduceMod, Nat.reduceDiv, Nat.reducePow, UInt8.reduceToNat, Int.reduceEq, Int.reduceLT, Int.reduceLE, ↓reduceIte, Nat.reduceAdd, Int.reduceToNat, reduceCtorEq, Nat.reduceLeDiff, ↓u_deflate_lengthSpan]
  refine (spanOfV (s - 257) 3 4 (by omega) (by omega) (.inl rfl)).calls rfl ?_
  rintro _ rfl
  simp -dsimp (disch := first | assumption | omega) only [↓vmPre, vmPost, vmWrd, vmDat, eq_self, forall_const, Nat.reduceLT, Nat.reduceEqDiff, Nat.reduceSub, Nat.reduceMul, Nat.reduceMod, Nat.reduceDiv, Nat.reducePow, UInt8.reduceToNat, Int.reduceEq, Int.reduceLT, Int.reduceLE, ↓reduceIte, Nat.reduceAdd, Int.reduceToNat, reduceCtorEq, Nat.reduceLeDiff, ↓u_deflate_lengthSpan]
theorem distanceSpanV (s : Nat) (h : s ≤ 29) : VPure Tryd.prog 45 [i64 (s : Int)] (fun x => x = spn (spanP 1 2 s)) := by
 refine VCalls.toPureV (go_deflate_distanceSpan (by simp) ?_)
 simp -dsimp (disch := first | assumption | omega) only [↓vmPre, vmPost, vmWrd, vmDat, eq_self, forall_const, Nat.reduceLT, Nat.reduceEqDiff, Nat.reduceSub, Nat.reduceMul, Nat.reduceMod, Nat.reduceDiv, Nat.reducePow, UInt8.reduceToNat, Int.reduceEq, Int.reduceLT, Int.reduceLE, ↓reduceIte, Nat.reduceAdd, Int.reduceToNat, reduceCtorEq, Nat.reduceLeDiff, ↓u_deflate_distanceSpan]
 refine (spanOfV s 1 2 (by omega) (by omega) (.inr rfl)).calls rfl ?_
 rintro _ rfl
 simp -dsimp (disch := first | assumption | omega) only [↓vmPre, vmPost, vmWrd, vmDat, eq_self, forall_const, Nat.reduceLT, Nat.reduceEqDiff, Nat.reduceSub, Nat.reduceMul, Nat.reduceMod, Nat.reduceDiv, Nat.reducePow, UInt8.reduceToNat, Int.reduceEq, Int.reduceLT, Int.reduceLE, ↓reduceIte, Nat.reduceAdd, Int.reduceToNat, reduceCtorEq, Nat.reduceLeDiff, ↓u_deflate_distanceSpan]
section
omit [Globs]
theorem span_len : ∀ k, k < 28 → spanR 3 4 k = spanP 3 4 k := by decide
theorem span_dist : ∀ k, k < 30 → spanR 1 2 k = spanP 1 2 k := by decide
theorem span_lenB : ∀ k, k < 31 → (spanR 3 4 k).1 ≤ 1000 ∧ (spanR 3 4 k).2 ≤ 10 := by decide
theorem span_distB : ∀ k, k < 31 → (spanR 1 2 k).1 ≤ 100000 ∧ (spanR 1 2 k).2 ≤ 15 := by decide
end
theorem spanR_loop (f g k : Nat) (hk : k ≤ 30) (hg : g = 4 ∨ g = 2) (hb : ∀ i, i < 31 → (spanR f g i).1 ≤ 100000 ∧ (spanR f g i).2 ≤ 15) {Q : VEx → Env → List Ob → Prop} (h : ∀ y, Q .nor [(7, i64 (g : Int)), (8, i64 (k : Int)), (9, i64 ((spanR f g k).1 : Int)), (10, i64 ((spanR f g k).2 : Int)), (11, i64 (k : Int)), (25, y)] []) :
  vwp Tryd.prog (.loop [7, 8, 9, 10, 11] c_ref1_span_L3) (Blk 0 Q) [(7, i64 (g : Int)), (8, i64 (k : Int)), (9, i64 (f : Int)), (10, i64 ((0 : Nat) : Int)), (11, i64 ((0 : Nat) : Int))] [] := by
 refine w_loop (fun q e H => ∃ i : Nat, q = k - i ∧ i ≤ k ∧ e = [(7, i64 (g : Int)), (8, i64 (k : Int)), (9, i64 ((spanR f g i).1 : Int)), (10, i64 ((spanR f g i).2 : Int)), (11, i64 (i : Int))] ∧ H = []) k ?_ ?_
 ·exact ⟨0, rfl, by omega, rfl, rfl⟩
 ·rintro q e H ⟨i, rfl, hi, rfl, rfl⟩
  obtain ⟨b1, b2⟩ := hb i (by omega)
  have g0 : g ≠ 0 := by omega
  by_cases hlt : i < k
  ·have hp : 2 ^ (spanR f g i).2 ≤ 2 ^ 15 := Nat.pow_le_pow_right (by omega) b2
   have hs1 : (spanR f g (i + 1)).1 = (spanR f g i).1 + 1 * 2 ^ (spanR f g i).2 := by rw [Nat.one_mul]; rfl
   by_cases hc : 2 * g ≤ i + 1
   ·by_cases hc2 : (i + 1) % g = 0
    ·have hs2 : (spanR f g (i + 1)).2 = (spanR f g i).2 + 1 := by simp [spanR, hc, hc2]
     simp -dsimp (disch := first | assumption | omega) only [↓vmPre, vmPost, vmWrd, vmDat, eq_self, forall_const, Nat.reduceLT, Nat.reduceEqDiff, Nat.reduceSub, Nat.reduceMul, Nat.reduceMod, Nat.reduceDiv, Nat.reducePow, UInt8.reduceToNat, Int.reduceEq, Int.reduceLT, Int.reduceLE, ↓reduceIte, Nat.reduceAdd, Int.reduceToNat, reduceCtorEq, Nat.reduceLeDiff, ↓u_ref1_span, hc2]
     exact Rnd_keep (k - (i + 1)) (by omega) (by simp) ⟨i + 1, rfl, by omega, by rw [hs1, hs2]; rfl, rfl⟩
    ·have hs2 : (spanR f g (i + 1)).2 = (spanR f g i).2 := by simp [spanR, hc2]
     simp -dsimp (disch := first | assumption | omega) only [↓vmPre, vmPost, vmWrd, vmDat, eq_self, forall_const, Nat.reduceLT, Nat.reduceEqDiff, Nat.reduceSub, Nat.reduceMul, Nat.reduceMod, Nat.reduceDiv, Nat.reducePow, UInt8.reduceToNat, Int.reduceEq, Int.reduceLT, Int.reduceLE, ↓reduceIte, Nat.reduceAdd, Int.reduceToNat, reduceCtorEq, Nat.reduceLeDiff, ↓u_ref1_span, hc2]
     exact Rnd_keep (k - (i + 1)) (by omega) (by simp) ⟨i + 1, rfl, by omega, by rw [hs1, hs2]; rfl, rfl⟩
   ·have hs2 : (spanR f g (i + 1)).2 = (spanR f g i).2 := by simp [spanR, hc]
    simp -dsimp (disch := first | assumption | omega) only [↓vmPre, vmPost, vmWrd, vmDat, eq_self, forall_const, Nat.reduceLT, Nat.reduceEqDiff, Nat.reduceSub, Nat.reduceMul, Nat.reduceMod, Nat.reduceDiv, Nat.reducePow, UInt8.reduceToNat, Int.reduceEq, Int.reduceLT, Int.reduceLE, ↓reduceIte, Nat.reduceAdd, Int.reduceToNat, reduceCtorEq, Nat.reduceLeDiff, ↓u_ref1_span]
    exact Rnd_keep (k - (i + 1)) (by omega) (by simp) ⟨i + 1, rfl, by omega, by rw [hs1, hs2]; rfl, rfl⟩
  ·have hik : i = k := by omega
   subst hik
   simp -dsimp (disch := first | assumption | omega) only [↓vmPre, vmPost, vmWrd, vmDat, eq_self, forall_const, Nat.reduceLT, Nat.reduceEqDiff, Nat.reduceSub, Nat.reduceMul, Nat.reduceMod, Nat.reduceDiv, Nat.reducePow, UInt8.reduceToNat, Int.reduceEq, Int.reduceLT, Int.reduceLE, ↓reduceIte, Nat.reduceAdd, Int.reduceToNat, reduceCtorEq, Nat.reduceLeDiff, ↓u_ref1_span]
   exact h _
theorem refSpanV (s : Nat) (d : Bool) (h : if d then s ≤ 29 else 257 ≤ s ∧ s ≤ 285) : VPure Tryd.prog 56 [i64 (s : Int), tb d] (fun x => x = .tup [i64 ((if d then spanP 1 2 s else if s = 285 then (258, 0) else spanP 3 4 (s - 257)).1 : Int), i64 ((if d then spanP 1 2 s else if s = 285 then (258, 0) else spanP 3 4 (s - 257)).2 : Int)]) := by
 refine VCalls.toPureV (go_ref1_span (by simp) ?_)
 cases d with
 | true =>
  have h' : s ≤ 29 := h
  simp -dsimp (disch := first | assumption | omega) only [↓vmPre, vmPost, vmWrd, vmDat, eq_self, forall_const, Nat.reduceLT, Nat.reduceEqDiff, Nat.reduceSub, Nat.reduceMul, Nat.reduceMod, Nat.reduceDiv, Nat.reducePow, UInt8.reduceToNat, Int.reduceEq, Int.reduceLT, Int.reduceLE, ↓reduceIte, Nat.reduceAdd, Int.reduceToNat, reduceCtorEq, Nat.reduceLeDiff, ↓u_ref1_span]
  refine spanR_loop 1 2 s (by omega) (.inr rfl) (fun i hi => span_distB i hi) fun y => ?_
  simp -dsimp (disch := first | assumption | omega) only [↓vmPre, vmPost, vmWrd, vmDat, eq_self, forall_const, Nat.reduceLT, Nat.reduceEqDiff, Nat.reduceSub, Nat.reduceMul, Nat.reduceMod, Nat.reduceDiv, Nat.reducePow, UInt8.reduceToNat, Int.reduceEq, Int.reduceLT, Int.reduceLE, ↓reduceIte, Nat.reduceAdd, Int.reduceToNat, reduceCtorEq, Nat.reduceLeDiff, ↓u_ref1_span]
  rw [span_dist s (by omega)]
 | false =>
  have h' : 257 ≤ s ∧ s ≤ 285 := h
  obtain ⟨h1, h2⟩ := h'
  by_cases h3 : s = 285
  ·subst h3
   simp -dsimp (disch := first | assumption | omega) only [↓vmPre, vmPost, vmWrd, vmDat, eq_self, forall_const, Nat.reduceLT, Nat.reduceEqDiff, Nat.reduceSub, Nat.reduceMul, Nat.reduceMod, Nat.reduceDiv, Nat.reducePow, UInt8.reduceToNat, Int.reduceEq, Int.reduceLT, Int.reduceLE, ↓reduceIte, Nat.reduceAdd, Int.reduceToNat, reduceCtorEq, Nat.reduceLeDiff, ↓u_ref1_span]
  ·simp -dsimp (disch := first | assumption | omega) only [↓vmPre, vmPost, vmWrd, vmDat, eq_self, forall_const, Nat.reduceLT, Nat.reduceEqDiff, Nat.reduceSub, Nat.reduceMul, Nat.reduceMod, Nat.reduceDiv, Nat.reducePow, UInt8.reduceToNat, Int.reduceEq, Int.reduceLT, Int.reduceLE, ↓reduceIte, Nat.reduceAdd, Int.reduceToNat, reduceCtorEq, Nat.reduceLeDiff, ↓u_ref1_span]
   refine spanR_loop 3 4 (s - 257) (by omega) (.inl rfl) (fun i hi => ⟨by have := (span_lenB i hi).1; omega, by have := (span_lenB i hi).2; omega⟩) fun y => ?_
   simp -dsimp (disch := first | assumption | omega) only [↓vmPre, vmPost, vmWrd, vmDat, eq_self, forall_const, Nat.reduceLT, Nat.reduceEqDiff, Nat.reduceSub, Nat.reduceMul, Nat.reduceMod, Nat.reduceDiv, Nat.reducePow, UInt8.reduceToNat, Int.reduceEq, Int.reduceLT, Int.reduceLE, ↓reduceIte, Nat.reduceAdd, Int.reduceToNat, reduceCtorEq, Nat.reduceLeDiff, ↓u_ref1_span]
   rw [span_len (s - 257) (by omega)]
end Go.Proofs.YtfgljddikcghhaaDoor

