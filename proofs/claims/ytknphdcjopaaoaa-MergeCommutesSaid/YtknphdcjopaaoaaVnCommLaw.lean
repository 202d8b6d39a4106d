/- The statement MergeCommutes, as the machine of values has it: true. -/
import Derived.Test.YtknphdcjopaaoaaVnComm
import Derived.Test.YtknphdcjopaaoaaVnLaw
namespace Go.Proofs.Ytknphdcjopaaoaa
open Go.RowKit
set_option linter.unusedVariables false
set_option linter.unusedSimpArgs false

theorem lawCommutes (f g h : List UInt8) (hf : f.length ≤ 140737488351232) (hg : g.length ≤ 140737488351232) (hh : h.length ≤ 140737488351232) : VPure Try.prog 9 [slB f, slB g, slB h] (fun x => x = tb true) := by
  refine VCalls.toPureV (go_law11_MergeCommutes (by simp) ?_)
  simp -dsimp (disch := first | assumption | omega | (simp only [List.length_set, List.length_append, List.length_cons, List.length_nil]; done) | (simp only [List.length_set, List.length_append, List.length_cons, List.length_nil]; omega)) only [↓vmPre, vmPost, vmWrd, vmDat, eq_self, forall_const, Nat.reduceLT, Nat.reduceEqDiff, Nat.reduceSub, Nat.reduceMul, Nat.reduceMod, Nat.reduceDiv, Nat.reducePow, UInt8.reduceToNat, Int.reduceEq, Int.reduceLT, Int.reduceLE, ↓reduceIte, Nat.reduceEqDiff, Nat.reduceAdd, Int.reduceToNat, reduceCtorEq, Nat.reduceLeDiff, ↓u_law11_MergeCommutes, bl_strN]
  by_cases h1 : 3000 < f.length
  · simp -dsimp (disch := first | assumption | omega | (simp only [List.length_set, List.length_append, List.length_cons, List.length_nil]; done) | (simp only [List.length_set, List.length_append, List.length_cons, List.length_nil]; omega)) only [↓vmPre, vmPost, vmWrd, vmDat, eq_self, forall_const, Nat.reduceLT, Nat.reduceEqDiff, Nat.reduceSub, Nat.reduceMul, Nat.reduceMod, Nat.reduceDiv, Nat.reducePow, UInt8.reduceToNat, Int.reduceEq, Int.reduceLT, Int.reduceLE, ↓reduceIte, Nat.reduceEqDiff, Nat.reduceAdd, Int.reduceToNat, reduceCtorEq, Nat.reduceLeDiff, ↓u_law11_MergeCommutes, bl_strN]
  by_cases h2 : 3000 < g.length
  · simp -dsimp (disch := first | assumption | omega | (simp only [List.length_set, List.length_append, List.length_cons, List.length_nil]; done) | (simp only [List.length_set, List.length_append, List.length_cons, List.length_nil]; omega)) only [↓vmPre, vmPost, vmWrd, vmDat, eq_self, forall_const, Nat.reduceLT, Nat.reduceEqDiff, Nat.reduceSub, Nat.reduceMul, Nat.reduceMod, Nat.reduceDiv, Nat.reducePow, UInt8.reduceToNat, Int.reduceEq, Int.reduceLT, Int.reduceLE, ↓reduceIte, Nat.reduceEqDiff, Nat.reduceAdd, Int.reduceToNat, reduceCtorEq, Nat.reduceLeDiff, ↓u_law11_MergeCommutes, bl_strN]
  by_cases h3 : 3000 < h.length
  · simp -dsimp (disch := first | assumption | omega | (simp only [List.length_set, List.length_append, List.length_cons, List.length_nil]; done) | (simp only [List.length_set, List.length_append, List.length_cons, List.length_nil]; omega)) only [↓vmPre, vmPost, vmWrd, vmDat, eq_self, forall_const, Nat.reduceLT, Nat.reduceEqDiff, Nat.reduceSub, Nat.reduceMul, Nat.reduceMod, Nat.reduceDiv, Nat.reducePow, UInt8.reduceToNat, Int.reduceEq, Int.reduceLT, Int.reduceLE, ↓reduceIte, Nat.reduceEqDiff, Nat.reduceAdd, Int.reduceToNat, reduceCtorEq, Nat.reduceLeDiff, ↓u_law11_MergeCommutes, bl_strN]
  have l1 := textsOf_len f g h [97] [98] (by omega) (by omega) (by omega) (by simp)
  have l2 := textsOf_len f h g [98] [97] (by omega) (by omega) (by omega) (by simp)
  have sw := textsOf_swap [97] [98] (linesOf f) (side f g) (side f h)
  simp -dsimp (disch := first | assumption | omega | (simp only [List.length_set, List.length_append, List.length_cons, List.length_nil]; done) | (simp only [List.length_set, List.length_append, List.length_cons, List.length_nil]; omega)) only [↓vmPre, vmPost, vmWrd, vmDat, eq_self, forall_const, Nat.reduceLT, Nat.reduceEqDiff, Nat.reduceSub, Nat.reduceMul, Nat.reduceMod, Nat.reduceDiv, Nat.reducePow, UInt8.reduceToNat, Int.reduceEq, Int.reduceLT, Int.reduceLE, ↓reduceIte, Nat.reduceEqDiff, Nat.reduceAdd, Int.reduceToNat, reduceCtorEq, Nat.reduceLeDiff, ↓u_law11_MergeCommutes, bl_strN]
  refine (textsV f g h [97] [98] (by omega) (by omega) (by omega) (by simp)).pure.calls rfl ?_
  rintro x rfl
  simp -dsimp (disch := first | assumption | omega | (simp only [List.length_set, List.length_append, List.length_cons, List.length_nil]; done) | (simp only [List.length_set, List.length_append, List.length_cons, List.length_nil]; omega)) only [↓vmPre, vmPost, vmWrd, vmDat, eq_self, forall_const, Nat.reduceLT, Nat.reduceEqDiff, Nat.reduceSub, Nat.reduceMul, Nat.reduceMod, Nat.reduceDiv, Nat.reducePow, UInt8.reduceToNat, Int.reduceEq, Int.reduceLT, Int.reduceLE, ↓reduceIte, Nat.reduceEqDiff, Nat.reduceAdd, Int.reduceToNat, reduceCtorEq, Nat.reduceLeDiff, ↓u_law11_MergeCommutes]
  refine (textsV f h g [98] [97] (by omega) (by omega) (by omega) (by simp)).pure.calls rfl ?_
  rintro x rfl
  rw [sw.1]
  simp -dsimp (disch := first | assumption | omega | (simp only [List.length_set, List.length_append, List.length_cons, List.length_nil]; done) | (simp only [List.length_set, List.length_append, List.length_cons, List.length_nil]; omega)) only [↓vmPre, vmPost, vmWrd, vmDat, eq_self, forall_const, Nat.reduceLT, Nat.reduceEqDiff, Nat.reduceSub, Nat.reduceMul, Nat.reduceMod, Nat.reduceDiv, Nat.reducePow, UInt8.reduceToNat, Int.reduceEq, Int.reduceLT, Int.reduceLE, ↓reduceIte, Nat.reduceEqDiff, Nat.reduceAdd, Int.reduceToNat, reduceCtorEq, Nat.reduceLeDiff, ↓u_law11_MergeCommutes]
  refine (same _ _ (by omega) (by omega)).calls rfl ?_
  rintro x rfl
  simp -dsimp (disch := first | assumption | omega | (simp only [List.length_set, List.length_append, List.length_cons, List.length_nil]; done) | (simp only [List.length_set, List.length_append, List.length_cons, List.length_nil]; omega)) only [↓vmPre, vmPost, vmWrd, vmDat, eq_self, forall_const, Nat.reduceLT, Nat.reduceEqDiff, Nat.reduceSub, Nat.reduceMul, Nat.reduceMod, Nat.reduceDiv, Nat.reducePow, UInt8.reduceToNat, Int.reduceEq, Int.reduceLT, Int.reduceLE, ↓reduceIte, Nat.reduceEqDiff, Nat.reduceAdd, Int.reduceToNat, reduceCtorEq, Nat.reduceLeDiff, ↓u_law11_MergeCommutes]
  refine vif_cases (fun h0 => ?_) (fun h0 => ?_)
  · have e := (sw.2 h0).symm
    rw [e]
    simp -dsimp (disch := first | assumption | omega | (simp only [List.length_set, List.length_append, List.length_cons, List.length_nil]; done) | (simp only [List.length_set, List.length_append, List.length_cons, List.length_nil]; omega)) only [↓vmPre, vmPost, vmWrd, vmDat, eq_self, forall_const, Nat.reduceLT, Nat.reduceEqDiff, Nat.reduceSub, Nat.reduceMul, Nat.reduceMod, Nat.reduceDiv, Nat.reducePow, UInt8.reduceToNat, Int.reduceEq, Int.reduceLT, Int.reduceLE, ↓reduceIte, Nat.reduceEqDiff, Nat.reduceAdd, Int.reduceToNat, reduceCtorEq, Nat.reduceLeDiff, ↓u_law11_MergeCommutes]
    refine (textsV f g f [97] [98] (by omega) (by omega) (by omega) (by simp)).pure.calls rfl ?_
    rintro x rfl
    rw [texts_ours]
    simp -dsimp (disch := first | assumption | omega | (simp only [List.length_set, List.length_append, List.length_cons, List.length_nil]; done) | (simp only [List.length_set, List.length_append, List.length_cons, List.length_nil]; omega)) only [↓vmPre, vmPost, vmWrd, vmDat, eq_self, forall_const, Nat.reduceLT, Nat.reduceEqDiff, Nat.reduceSub, Nat.reduceMul, Nat.reduceMod, Nat.reduceDiv, Nat.reducePow, UInt8.reduceToNat, Int.reduceEq, Int.reduceLT, Int.reduceLE, ↓reduceIte, Nat.reduceEqDiff, Nat.reduceAdd, Int.reduceToNat, reduceCtorEq, Nat.reduceLeDiff, ↓u_law11_MergeCommutes]
    refine (textsV f f h [97] [98] (by omega) (by omega) (by omega) (by simp)).pure.calls rfl ?_
    rintro x rfl
    rw [texts_theirs]
    simp -dsimp (disch := first | assumption | omega | (simp only [List.length_set, List.length_append, List.length_cons, List.length_nil]; done) | (simp only [List.length_set, List.length_append, List.length_cons, List.length_nil]; omega)) only [↓vmPre, vmPost, vmWrd, vmDat, eq_self, forall_const, Nat.reduceLT, Nat.reduceEqDiff, Nat.reduceSub, Nat.reduceMul, Nat.reduceMod, Nat.reduceDiv, Nat.reducePow, UInt8.reduceToNat, Int.reduceEq, Int.reduceLT, Int.reduceLE, ↓reduceIte, Nat.reduceEqDiff, Nat.reduceAdd, Int.reduceToNat, reduceCtorEq, Nat.reduceLeDiff, ↓u_law11_MergeCommutes]
    refine (textsV f g g [97] [98] (by omega) (by omega) (by omega) (by simp)).pure.calls rfl ?_
    rintro x rfl
    rw [texts_both]
    simp -dsimp (disch := first | assumption | omega | (simp only [List.length_set, List.length_append, List.length_cons, List.length_nil]; done) | (simp only [List.length_set, List.length_append, List.length_cons, List.length_nil]; omega)) only [↓vmPre, vmPost, vmWrd, vmDat, eq_self, forall_const, Nat.reduceLT, Nat.reduceEqDiff, Nat.reduceSub, Nat.reduceMul, Nat.reduceMod, Nat.reduceDiv, Nat.reducePow, UInt8.reduceToNat, Int.reduceEq, Int.reduceLT, Int.reduceLE, ↓reduceIte, Nat.reduceEqDiff, Nat.reduceAdd, Int.reduceToNat, reduceCtorEq, Nat.reduceLeDiff, ↓u_law11_MergeCommutes]
    refine (same _ _ (by omega) (by omega)).calls rfl ?_
    rintro x rfl
    simp -dsimp (disch := first | assumption | omega | (simp only [List.length_set, List.length_append, List.length_cons, List.length_nil]; done) | (simp only [List.length_set, List.length_append, List.length_cons, List.length_nil]; omega)) only [↓vmPre, vmPost, vmWrd, vmDat, eq_self, forall_const, Nat.reduceLT, Nat.reduceEqDiff, Nat.reduceSub, Nat.reduceMul, Nat.reduceMod, Nat.reduceDiv, Nat.reducePow, UInt8.reduceToNat, Int.reduceEq, Int.reduceLT, Int.reduceLE, ↓reduceIte, Nat.reduceEqDiff, Nat.reduceAdd, Int.reduceToNat, reduceCtorEq, Nat.reduceLeDiff, ↓u_law11_MergeCommutes]
    refine (same _ _ (by omega) (by omega)).calls rfl ?_
    rintro x rfl
    simp -dsimp (disch := first | assumption | omega | (simp only [List.length_set, List.length_append, List.length_cons, List.length_nil]; done) | (simp only [List.length_set, List.length_append, List.length_cons, List.length_nil]; omega)) only [↓vmPre, vmPost, vmWrd, vmDat, eq_self, forall_const, Nat.reduceLT, Nat.reduceEqDiff, Nat.reduceSub, Nat.reduceMul, Nat.reduceMod, Nat.reduceDiv, Nat.reducePow, UInt8.reduceToNat, Int.reduceEq, Int.reduceLT, Int.reduceLE, ↓reduceIte, Nat.reduceEqDiff, Nat.reduceAdd, Int.reduceToNat, reduceCtorEq, Nat.reduceLeDiff, ↓u_law11_MergeCommutes]
    refine (same _ _ (by omega) (by omega)).calls rfl ?_
    rintro x rfl
    simp -dsimp (disch := first | assumption | omega | (simp only [List.length_set, List.length_append, List.length_cons, List.length_nil]; done) | (simp only [List.length_set, List.length_append, List.length_cons, List.length_nil]; omega)) only [↓vmPre, vmPost, vmWrd, vmDat, eq_self, forall_const, Nat.reduceLT, Nat.reduceEqDiff, Nat.reduceSub, Nat.reduceMul, Nat.reduceMod, Nat.reduceDiv, Nat.reducePow, UInt8.reduceToNat, Int.reduceEq, Int.reduceLT, Int.reduceLE, ↓reduceIte, Nat.reduceEqDiff, Nat.reduceAdd, Int.reduceToNat, reduceCtorEq, Nat.reduceLeDiff, ↓u_law11_MergeCommutes]
  · simp -dsimp (disch := first | assumption | omega | (simp only [List.length_set, List.length_append, List.length_cons, List.length_nil]; done) | (simp only [List.length_set, List.length_append, List.length_cons, List.length_nil]; omega)) only [↓vmPre, vmPost, vmWrd, vmDat, eq_self, forall_const, Nat.reduceLT, Nat.reduceEqDiff, Nat.reduceSub, Nat.reduceMul, Nat.reduceMod, Nat.reduceDiv, Nat.reducePow, UInt8.reduceToNat, Int.reduceEq, Int.reduceLT, Int.reduceLE, ↓reduceIte, Nat.reduceEqDiff, Nat.reduceAdd, Int.reduceToNat, reduceCtorEq, Nat.reduceLeDiff, ↓u_law11_MergeCommutes]
    refine (textsV f g f [97] [98] (by omega) (by omega) (by omega) (by simp)).pure.calls rfl ?_
    rintro x rfl
    rw [texts_ours]
    simp -dsimp (disch := first | assumption | omega | (simp only [List.length_set, List.length_append, List.length_cons, List.length_nil]; done) | (simp only [List.length_set, List.length_append, List.length_cons, List.length_nil]; omega)) only [↓vmPre, vmPost, vmWrd, vmDat, eq_self, forall_const, Nat.reduceLT, Nat.reduceEqDiff, Nat.reduceSub, Nat.reduceMul, Nat.reduceMod, Nat.reduceDiv, Nat.reducePow, UInt8.reduceToNat, Int.reduceEq, Int.reduceLT, Int.reduceLE, ↓reduceIte, Nat.reduceEqDiff, Nat.reduceAdd, Int.reduceToNat, reduceCtorEq, Nat.reduceLeDiff, ↓u_law11_MergeCommutes]
    refine (textsV f f h [97] [98] (by omega) (by omega) (by omega) (by simp)).pure.calls rfl ?_
    rintro x rfl
    rw [texts_theirs]
    simp -dsimp (disch := first | assumption | omega | (simp only [List.length_set, List.length_append, List.length_cons, List.length_nil]; done) | (simp only [List.length_set, List.length_append, List.length_cons, List.length_nil]; omega)) only [↓vmPre, vmPost, vmWrd, vmDat, eq_self, forall_const, Nat.reduceLT, Nat.reduceEqDiff, Nat.reduceSub, Nat.reduceMul, Nat.reduceMod, Nat.reduceDiv, Nat.reducePow, UInt8.reduceToNat, Int.reduceEq, Int.reduceLT, Int.reduceLE, ↓reduceIte, Nat.reduceEqDiff, Nat.reduceAdd, Int.reduceToNat, reduceCtorEq, Nat.reduceLeDiff, ↓u_law11_MergeCommutes]
    refine (textsV f g g [97] [98] (by omega) (by omega) (by omega) (by simp)).pure.calls rfl ?_
    rintro x rfl
    rw [texts_both]
    simp -dsimp (disch := first | assumption | omega | (simp only [List.length_set, List.length_append, List.length_cons, List.length_nil]; done) | (simp only [List.length_set, List.length_append, List.length_cons, List.length_nil]; omega)) only [↓vmPre, vmPost, vmWrd, vmDat, eq_self, forall_const, Nat.reduceLT, Nat.reduceEqDiff, Nat.reduceSub, Nat.reduceMul, Nat.reduceMod, Nat.reduceDiv, Nat.reducePow, UInt8.reduceToNat, Int.reduceEq, Int.reduceLT, Int.reduceLE, ↓reduceIte, Nat.reduceEqDiff, Nat.reduceAdd, Int.reduceToNat, reduceCtorEq, Nat.reduceLeDiff, ↓u_law11_MergeCommutes]
    refine (same _ _ (by omega) (by omega)).calls rfl ?_
    rintro x rfl
    simp -dsimp (disch := first | assumption | omega | (simp only [List.length_set, List.length_append, List.length_cons, List.length_nil]; done) | (simp only [List.length_set, List.length_append, List.length_cons, List.length_nil]; omega)) only [↓vmPre, vmPost, vmWrd, vmDat, eq_self, forall_const, Nat.reduceLT, Nat.reduceEqDiff, Nat.reduceSub, Nat.reduceMul, Nat.reduceMod, Nat.reduceDiv, Nat.reducePow, UInt8.reduceToNat, Int.reduceEq, Int.reduceLT, Int.reduceLE, ↓reduceIte, Nat.reduceEqDiff, Nat.reduceAdd, Int.reduceToNat, reduceCtorEq, Nat.reduceLeDiff, ↓u_law11_MergeCommutes]
    refine (same _ _ (by omega) (by omega)).calls rfl ?_
    rintro x rfl
    simp -dsimp (disch := first | assumption | omega | (simp only [List.length_set, List.length_append, List.length_cons, List.length_nil]; done) | (simp only [List.length_set, List.length_append, List.length_cons, List.length_nil]; omega)) only [↓vmPre, vmPost, vmWrd, vmDat, eq_self, forall_const, Nat.reduceLT, Nat.reduceEqDiff, Nat.reduceSub, Nat.reduceMul, Nat.reduceMod, Nat.reduceDiv, Nat.reducePow, UInt8.reduceToNat, Int.reduceEq, Int.reduceLT, Int.reduceLE, ↓reduceIte, Nat.reduceEqDiff, Nat.reduceAdd, Int.reduceToNat, reduceCtorEq, Nat.reduceLeDiff, ↓u_law11_MergeCommutes]
    refine (same _ _ (by omega) (by omega)).calls rfl ?_
    rintro x rfl
    simp -dsimp (disch := first | assumption | omega | (simp only [List.length_set, List.length_append, List.length_cons, List.length_nil]; done) | (simp only [List.length_set, List.length_append, List.length_cons, List.length_nil]; omega)) only [↓vmPre, vmPost, vmWrd, vmDat, eq_self, forall_const, Nat.reduceLT, Nat.reduceEqDiff, Nat.reduceSub, Nat.reduceMul, Nat.reduceMod, Nat.reduceDiv, Nat.reducePow, UInt8.reduceToNat, Int.reduceEq, Int.reduceLT, Int.reduceLE, ↓reduceIte, Nat.reduceEqDiff, Nat.reduceAdd, Int.reduceToNat, reduceCtorEq, Nat.reduceLeDiff, ↓u_law11_MergeCommutes]
end Go.Proofs.Ytknphdcjopaaoaa
