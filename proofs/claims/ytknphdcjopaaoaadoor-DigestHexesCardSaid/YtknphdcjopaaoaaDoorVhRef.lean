/- The document's Hex and Parse; digest.Parse. -/
import Derived.Test.YtknphdcjopaaoaaDoorVhHex
import Derived.Test.YtknphdcjopaaoaaDoorVdTell
namespace Go.Proofs.YtknphdcjopaaoaaDoor
open Go.RowKit
set_option linter.unusedVariables false
set_option linter.unusedSimpArgs false

theorem vex_is {K : TV → Prop} [Tg K] (x : TV) (h : K x) : vex K := ⟨x, h⟩
theorem digitV (n : Nat) (h : n < 16) : VPure Tryd.prog 35 [.val (.int .u8 (n : Int))] (fun r => r = by8 (dig n)) := by
  refine VCalls.toPureV (go_ref2_digit (by simp) ?_)
  by_cases h1 : n < 10
  · simp -dsimp (disch := first | assumption | omega) only [↓vmPre, vmPost, vmWrd, vmDat, eq_self, forall_const, Nat.reduceLT, Nat.reduceEqDiff, Nat.reduceSub, Nat.reduceMul, Nat.reduceMod, Nat.reduceDiv, Nat.reducePow, UInt8.reduceToNat, Int.reduceEq, Int.reduceLT, Int.reduceLE, ↓reduceIte, Nat.reduceEqDiff, Nat.reduceAdd, Int.reduceToNat, reduceCtorEq, Nat.reduceLeDiff, ↓u_ref2_digit, b_add8]
    have e : (48 + n) % 256 = 48 + n := by omega
    rw [e, by8_of (by omega)]
    unfold dig; rw [if_pos h1]
  · simp -dsimp (disch := first | assumption | omega) only [↓vmPre, vmPost, vmWrd, vmDat, eq_self, forall_const, Nat.reduceLT, Nat.reduceEqDiff, Nat.reduceSub, Nat.reduceMul, Nat.reduceMod, Nat.reduceDiv, Nat.reducePow, UInt8.reduceToNat, Int.reduceEq, Int.reduceLT, Int.reduceLE, ↓reduceIte, Nat.reduceEqDiff, Nat.reduceAdd, Int.reduceToNat, reduceCtorEq, Nat.reduceLeDiff, ↓u_ref2_digit, b_add8]
    have e : (97 + n) % 256 = 97 + n := by omega
    rw [e]
    simp -dsimp (disch := first | assumption | omega) only [↓vmPre, vmPost, vmWrd, vmDat, eq_self, forall_const, Nat.reduceLT, Nat.reduceEqDiff, Nat.reduceSub, Nat.reduceMul, Nat.reduceMod, Nat.reduceDiv, Nat.reducePow, UInt8.reduceToNat, Int.reduceEq, Int.reduceLT, Int.reduceLE, ↓reduceIte, Nat.reduceEqDiff, Nat.reduceAdd, Int.reduceToNat, reduceCtorEq, Nat.reduceLeDiff, ↓u_ref2_digit, b_sub8]
    have e2 : 97 + n - 10 = 87 + n := by omega
    rw [e2, by8_of (by omega)]
    unfold dig; rw [if_neg h1]
theorem quo16 {x : UInt8} : binV 5 .quo (.int .u8 (x.toNat : Int)) (.int .u8 ((16 : Nat) : Int)) = some (.int .u8 ((x.toNat / 16 : Nat) : Int)) := b_quo8 (by omega) (by have := x.toNat_lt; omega)
theorem set2 {a b : TV} : ((List.replicate 2 (TV.val (Value.int IntKind.u8 ((0 : Nat) : Int)))).set 0 a).set 1 b = [a, b] := by simp [List.replicate]
theorem refHexV (l : List UInt8) (hl : l.length = 20) : VPure Tryd.prog 14 [.arr 20 1 (l.map by8)] (fun r => r = .val (.string (str (hexOf l)))) := by
  refine VCalls.toPureV (go_ref2_Hex (by simp) ?_)
  simp -dsimp (disch := first | assumption | omega) only [↓vmPre, vmPost, vmWrd, vmDat, eq_self, forall_const, Nat.reduceLT, Nat.reduceEqDiff, Nat.reduceSub, Nat.reduceMul, Nat.reduceMod, Nat.reduceDiv, Nat.reducePow, UInt8.reduceToNat, Int.reduceEq, Int.reduceLT, Int.reduceLE, ↓reduceIte, Nat.reduceEqDiff, Nat.reduceAdd, Int.reduceToNat, reduceCtorEq, Nat.reduceLeDiff, ↓u_ref2_Hex]
  refine w_loop (fun q e H => ∃ (i v : Nat), q = 20 - i ∧ i ≤ 20 ∧ e = [(1, .op 0 0 []), (3, .os 1 1 v [] 0 (2 * i) (2 * i)), (4, i64 (i : Int))] ∧
    H = [.obj 0 (.arr 20 1 (l.map by8)), .obj v (.arr (2 * i) 1 ((hexOf (l.take i)).map by8))]) 20 ?_ ?_
  · exact ⟨0, 0, by simp, by simp, rfl, by simp [hexOf]⟩
  · rintro q e H ⟨i, v, rfl, hi, rfl, rfl⟩
    by_cases h : i < 20
    · have hg : l[i]? = some l[i] := List.getElem?_eq_getElem (by omega)
      have hsucc := List.take_succ_eq_append_getElem (l := l) (i := i) (by omega)
      have hsn := hexOf_snoc (l.take i) l[i]
      rw [← hsucc] at hsn
      have hlen : (hexOf (l.take i)).length = 2 * i := by rw [hexOf_len, List.length_take]; omega
      generalize hr2 : hexOf (l.take (i + 1)) = r2 at *
      generalize hexOf (l.take i) = r at *
      generalize l[i] = c at *
      have hc := c.toNat_lt
      have htk : (r.map by8).take (2 * i) = r.map by8 := List.take_of_length_le (by simp [hlen])
      have htk2 : r.take (2 * i) = r := List.take_of_length_le (by omega)
      simp -dsimp (disch := first | assumption | omega) only [↓vmPre, vmPost, vmWrd, vmDat, eq_self, forall_const, Nat.reduceLT, Nat.reduceEqDiff, Nat.reduceSub, Nat.reduceMul, Nat.reduceMod, Nat.reduceDiv, Nat.reducePow, UInt8.reduceToNat, Int.reduceEq, Int.reduceLT, Int.reduceLE, ↓reduceIte, Nat.reduceEqDiff, Nat.reduceAdd, Int.reduceToNat, reduceCtorEq, Nat.reduceLeDiff, ↓u_ref2_Hex, hg, quo16, b_remN]
      refine vex_is (by8 (dig (c.toNat / 16))) ⟨(digitV _ (by omega)).calls rfl (fun x hx => ⟨hx, rfl⟩), ?_⟩
      simp -dsimp (disch := first | assumption | omega) only [↓vmPre, vmPost, vmWrd, vmDat, eq_self, forall_const, Nat.reduceLT, Nat.reduceEqDiff, Nat.reduceSub, Nat.reduceMul, Nat.reduceMod, Nat.reduceDiv, Nat.reducePow, UInt8.reduceToNat, Int.reduceEq, Int.reduceLT, Int.reduceLE, ↓reduceIte, Nat.reduceEqDiff, Nat.reduceAdd, Int.reduceToNat, reduceCtorEq, Nat.reduceLeDiff, ↓u_ref2_Hex, hg, quo16, b_remN]
      refine (digitV _ (by omega)).calls rfl ?_
      rintro x rfl
      have t2 : [by8 (dig (c.toNat / 16)), by8 (dig (c.toNat % 16))].take 2 = [by8 (dig (c.toNat / 16)), by8 (dig (c.toNat % 16))] := rfl
      simp -dsimp (disch := first | assumption | omega) only [↓vmPre, vmPost, vmWrd, vmDat, eq_self, forall_const, Nat.reduceLT, Nat.reduceEqDiff, Nat.reduceSub, Nat.reduceMul, Nat.reduceMod, Nat.reduceDiv, Nat.reducePow, UInt8.reduceToNat, Int.reduceEq, Int.reduceLT, Int.reduceLE, ↓reduceIte, Nat.reduceEqDiff, Nat.reduceAdd, Int.reduceToNat, reduceCtorEq, Nat.reduceLeDiff, ↓u_ref2_Hex, set2, htk, htk2, t2]
      refine Rnd_cut (20 - (i + 1)) 2 (by omega) (by simp) rfl (by simp [belowH, belowO, belowT]) ⟨i + 1, v + 1, rfl, by omega, ?_, ?_⟩
      · have : 2 * (i + 1) = 2 * i + 2 := by omega
        rw [this]; rfl
      · have : 2 * (i + 1) = 2 * i + 2 := by omega
        rw [this, hr2, hsn]; simp
    · have hi2 : i = 20 := by omega
      subst hi2
      have htl : l.take 20 = l := List.take_of_length_le (by omega)
      have hlen : (hexOf l).length = 40 := by rw [hexOf_len]; omega
      rw [htl]
      have htk : ((hexOf l).map by8).take (2 * 20) = (hexOf l).map by8 := List.take_of_length_le (by simp [hlen])
      have htk2 : (hexOf l).take (2 * 20) = hexOf l := List.take_of_length_le (by omega)
      simp -dsimp (disch := first | assumption | omega) only [↓vmPre, vmPost, vmWrd, vmDat, eq_self, forall_const, Nat.reduceLT, Nat.reduceEqDiff, Nat.reduceSub, Nat.reduceMul, Nat.reduceMod, Nat.reduceDiv, Nat.reducePow, UInt8.reduceToNat, Int.reduceEq, Int.reduceLT, Int.reduceLE, ↓reduceIte, Nat.reduceEqDiff, Nat.reduceAdd, Int.reduceToNat, reduceCtorEq, Nat.reduceLeDiff, ↓u_ref2_Hex, htk, htk2]
end Go.Proofs.YtknphdcjopaaoaaDoor
