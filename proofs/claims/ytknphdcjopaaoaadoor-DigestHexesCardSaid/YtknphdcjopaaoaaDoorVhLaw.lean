/- The statement DigestHexes, as the machine of values has it. -/
import Derived.Test.YtknphdcjopaaoaaDoorVhParse
import Derived.Test.YtknphdcjopaaoaaDoorFrame
namespace Go.Proofs.YtknphdcjopaaoaaDoor
open Go.RowKit
set_option linter.unusedVariables false
set_option linter.unusedSimpArgs false

theorem pairs_hex : ∀ (l : List UInt8), pairs (hexOf l) = l
  | [] => rfl
  | x :: l => by
    have e : hexOf (x :: l) = dig (x.toNat / 16) :: dig (x.toNat % 16) :: hexOf l := rfl
    have hx := x.toNat_lt
    rw [e, pairs, pairs_hex l, hv_dig _ (by omega), hv_dig _ (by omega)]
    have : x.toNat / 16 * 16 + x.toNat % 16 = x.toNat := by omega
    rw [this, UInt8.ofNat_toNat]
theorem ok_hex {l : List UInt8} (h : l.length = 20) : okHex (hexOf l) = true := by
  rw [okHex_all (by rw [hexOf_len]; omega)]
  intro c hc
  obtain ⟨x, _, hc⟩ := List.mem_flatMap.1 hc
  have hx := x.toNat_lt
  simp only [List.mem_cons, List.not_mem_nil, or_false] at hc
  rcases hc with rfl | rfl
  · rw [hv_dig _ (by omega)]; omega
  · rw [hv_dig _ (by omega)]; omega
theorem parsed_hex {l : List UInt8} (h : l.length = 20) : parsed (hexOf l) = l := by
  unfold parsed; rw [ok_hex h, if_pos rfl, pairs_hex]
theorem parsed_len {s : List UInt8} : (parsed s).length = 20 := by
  unfold parsed
  split
  · rename_i h
    unfold okHex at h
    rw [Bool.and_eq_true, decide_eq_true_eq] at h
    exact pairs_len (by omega)
  · simp [zer]
theorem beq_l {l : List UInt8} : (l == l) = true := by simp
theorem not_beq_l {l : List UInt8} : (!(l == l)) = false := by simp
theorem lawHexes (l s : List UInt8) (hl : l.length = 20) : VPure Tryd.prog 4 [.arr 20 1 (l.map by8), .val (.string (str s))] (fun r => r = tb true) := by
  refine VCalls.toPureV (go_law2_DigestHexes (by simp) ?_)
  by_cases hs : 300000 < s.length
  · simp -dsimp (disch := first | assumption | omega) only [↓vmPre, vmPost, vmWrd, vmDat, eq_self, forall_const, Nat.reduceLT, Nat.reduceEqDiff, Nat.reduceSub, Nat.reduceMul, Nat.reduceMod, Nat.reduceDiv, Nat.reducePow, UInt8.reduceToNat, Int.reduceEq, Int.reduceLT, Int.reduceLE, ↓reduceIte, Nat.reduceEqDiff, Nat.reduceAdd, Int.reduceToNat, reduceCtorEq, Nat.reduceLeDiff, ↓u_law2_DigestHexes, bl_strH]
  simp -dsimp (disch := first | assumption | omega) only [↓vmPre, vmPost, vmWrd, vmDat, eq_self, forall_const, Nat.reduceLT, Nat.reduceEqDiff, Nat.reduceSub, Nat.reduceMul, Nat.reduceMod, Nat.reduceDiv, Nat.reducePow, UInt8.reduceToNat, Int.reduceEq, Int.reduceLT, Int.reduceLE, ↓reduceIte, Nat.reduceEqDiff, Nat.reduceAdd, Int.reduceToNat, reduceCtorEq, Nat.reduceLeDiff, ↓u_law2_DigestHexes, bl_strH]
  refine (hexV l hl).calls rfl ?_
  rintro _ rfl
  simp -dsimp (disch := first | assumption | omega) only [↓vmPre, vmPost, vmWrd, vmDat, eq_self, forall_const, Nat.reduceLT, Nat.reduceEqDiff, Nat.reduceSub, Nat.reduceMul, Nat.reduceMod, Nat.reduceDiv, Nat.reducePow, UInt8.reduceToNat, Int.reduceEq, Int.reduceLT, Int.reduceLE, ↓reduceIte, Nat.reduceEqDiff, Nat.reduceAdd, Int.reduceToNat, reduceCtorEq, Nat.reduceLeDiff, ↓u_law2_DigestHexes, bl_strH]
  refine (refHexV l hl).calls rfl ?_
  rintro _ rfl
  simp -dsimp (disch := first | assumption | omega) only [↓vmPre, vmPost, vmWrd, vmDat, eq_self, forall_const, Nat.reduceLT, Nat.reduceEqDiff, Nat.reduceSub, Nat.reduceMul, Nat.reduceMod, Nat.reduceDiv, Nat.reducePow, UInt8.reduceToNat, Int.reduceEq, Int.reduceLT, Int.reduceLE, ↓reduceIte, Nat.reduceEqDiff, Nat.reduceAdd, Int.reduceToNat, reduceCtorEq, Nat.reduceLeDiff, ↓u_law2_DigestHexes, bl_strH]
  refine (parseV (hexOf l) (by rw [hexOf_len]; omega)).calls rfl ?_
  rintro _ rfl
  rw [parsed_hex hl, ok_hex hl, if_pos rfl]
  simp -dsimp (disch := first | assumption | omega) only [↓vmPre, vmPost, vmWrd, vmDat, eq_self, forall_const, Nat.reduceLT, Nat.reduceEqDiff, Nat.reduceSub, Nat.reduceMul, Nat.reduceMod, Nat.reduceDiv, Nat.reducePow, UInt8.reduceToNat, Int.reduceEq, Int.reduceLT, Int.reduceLE, ↓reduceIte, Nat.reduceEqDiff, Nat.reduceAdd, Int.reduceToNat, reduceCtorEq, Nat.reduceLeDiff, ↓u_law2_DigestHexes, bl_strH, beq_l]
  refine tell0.calls rfl ?_
  rintro _ rfl
  simp -dsimp (disch := first | assumption | omega) only [↓vmPre, vmPost, vmWrd, vmDat, eq_self, forall_const, Nat.reduceLT, Nat.reduceEqDiff, Nat.reduceSub, Nat.reduceMul, Nat.reduceMod, Nat.reduceDiv, Nat.reducePow, UInt8.reduceToNat, Int.reduceEq, Int.reduceLT, Int.reduceLE, ↓reduceIte, Nat.reduceEqDiff, Nat.reduceAdd, Int.reduceToNat, reduceCtorEq, Nat.reduceLeDiff, ↓u_law2_DigestHexes, bl_strH]
  refine (parseV s (by omega)).calls rfl ?_
  rintro _ rfl
  cases hok : okHex s with
  | true =>
    rw [if_pos rfl]
    simp -dsimp (disch := first | assumption | omega) only [↓vmPre, vmPost, vmWrd, vmDat, eq_self, forall_const, Nat.reduceLT, Nat.reduceEqDiff, Nat.reduceSub, Nat.reduceMul, Nat.reduceMod, Nat.reduceDiv, Nat.reducePow, UInt8.reduceToNat, Int.reduceEq, Int.reduceLT, Int.reduceLE, ↓reduceIte, Nat.reduceEqDiff, Nat.reduceAdd, Int.reduceToNat, reduceCtorEq, Nat.reduceLeDiff, ↓u_law2_DigestHexes, bl_strH]
    refine (refParseV s (by omega)).calls rfl ?_
    rintro _ rfl
    rw [hok]
    simp -dsimp (disch := first | assumption | omega) only [↓vmPre, vmPost, vmWrd, vmDat, eq_self, forall_const, Nat.reduceLT, Nat.reduceEqDiff, Nat.reduceSub, Nat.reduceMul, Nat.reduceMod, Nat.reduceDiv, Nat.reducePow, UInt8.reduceToNat, Int.reduceEq, Int.reduceLT, Int.reduceLE, ↓reduceIte, Nat.reduceEqDiff, Nat.reduceAdd, Int.reduceToNat, reduceCtorEq, Nat.reduceLeDiff, ↓u_law2_DigestHexes, bl_strH]
    refine tell0.calls rfl ?_
    rintro _ rfl
    simp -dsimp (disch := first | assumption | omega) only [↓vmPre, vmPost, vmWrd, vmDat, eq_self, forall_const, Nat.reduceLT, Nat.reduceEqDiff, Nat.reduceSub, Nat.reduceMul, Nat.reduceMod, Nat.reduceDiv, Nat.reducePow, UInt8.reduceToNat, Int.reduceEq, Int.reduceLT, Int.reduceLE, ↓reduceIte, Nat.reduceEqDiff, Nat.reduceAdd, Int.reduceToNat, reduceCtorEq, Nat.reduceLeDiff, ↓u_law2_DigestHexes, beq_l]
  | false =>
    rw [if_neg (by simp)]
    simp -dsimp (disch := first | assumption | omega) only [↓vmPre, vmPost, vmWrd, vmDat, eq_self, forall_const, Nat.reduceLT, Nat.reduceEqDiff, Nat.reduceSub, Nat.reduceMul, Nat.reduceMod, Nat.reduceDiv, Nat.reducePow, UInt8.reduceToNat, Int.reduceEq, Int.reduceLT, Int.reduceLE, ↓reduceIte, Nat.reduceEqDiff, Nat.reduceAdd, Int.reduceToNat, reduceCtorEq, Nat.reduceLeDiff, ↓u_law2_DigestHexes, bl_strH]
    refine (refParseV s (by omega)).calls rfl ?_
    rintro _ rfl
    rw [hok]
    simp -dsimp (disch := first | assumption | omega) only [↓vmPre, vmPost, vmWrd, vmDat, eq_self, forall_const, Nat.reduceLT, Nat.reduceEqDiff, Nat.reduceSub, Nat.reduceMul, Nat.reduceMod, Nat.reduceDiv, Nat.reducePow, UInt8.reduceToNat, Int.reduceEq, Int.reduceLT, Int.reduceLE, ↓reduceIte, Nat.reduceEqDiff, Nat.reduceAdd, Int.reduceToNat, reduceCtorEq, Nat.reduceLeDiff, ↓u_law2_DigestHexes, bl_strH]
    refine tell.calls rfl ?_
    rintro _ rfl
    simp -dsimp (disch := first | assumption | omega) only [↓vmPre, vmPost, vmWrd, vmDat, eq_self, forall_const, Nat.reduceLT, Nat.reduceEqDiff, Nat.reduceSub, Nat.reduceMul, Nat.reduceMod, Nat.reduceDiv, Nat.reducePow, UInt8.reduceToNat, Int.reduceEq, Int.reduceLT, Int.reduceLE, ↓reduceIte, Nat.reduceEqDiff, Nat.reduceAdd, Int.reduceToNat, reduceCtorEq, Nat.reduceLeDiff, ↓u_law2_DigestHexes, beq_l]
set_option maxRecDepth 100000 in
/-- An id that came in. -/
theorem covers_hid : Covers Tryd.prog 33 (fun l : List UInt8 => .arr 20 1 (l.map by8)) (fun l => l.length = 20) :=
  covers_map (covers_array Tryd.underlying33 (k := 1) (by kernel_rfl) (by kernel_rfl) (covers_u8 Tryd.underlying5) (fun _ _ => rfl)) fun l h => ⟨l, rfl, h.1⟩
end Go.Proofs.YtknphdcjopaaoaaDoor
