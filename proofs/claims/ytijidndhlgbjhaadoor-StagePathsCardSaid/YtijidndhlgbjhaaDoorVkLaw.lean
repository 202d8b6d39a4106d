/- The statement StagePaths, as the machine of values has it. -/
import Derived.Test.YtijidndhlgbjhaaDoorVkName
import Derived.Test.YtijidndhlgbjhaaDoorFrame
namespace Go.Proofs.YtijidndhlgbjhaaDoor
open Go.RowKit
variable [Globs]
set_option linter.unusedSectionVars false
set_option linter.unusedVariables false
set_option linter.unusedSimpArgs false

theorem lawPaths (s : List UInt8) : VPure Tryd.prog 4 [ts s] (fun r => r = tb true) := by
  refine VCalls.toPureV (go_law8_StagePaths (by simp) ?_)
  by_cases hs : 10000 < s.length
  · simp -dsimp (disch := first | assumption | omega) only [↓vmPre, vmPost, vmWrd, vmDat, eq_self, forall_const, Nat.reduceLT, Nat.reduceEqDiff, Nat.reduceSub, Nat.reduceMul, Nat.reduceMod, Nat.reduceDiv, Nat.reducePow, UInt8.reduceToNat, Int.reduceEq, Int.reduceLT, Int.reduceLE, ↓reduceIte, Nat.reduceEqDiff, Nat.reduceAdd, Int.reduceToNat, reduceCtorEq, Nat.reduceLeDiff, ↓u_law8_StagePaths, bl_strN]
  simp -dsimp (disch := first | assumption | omega) only [↓vmPre, vmPost, vmWrd, vmDat, eq_self, forall_const, Nat.reduceLT, Nat.reduceEqDiff, Nat.reduceSub, Nat.reduceMul, Nat.reduceMod, Nat.reduceDiv, Nat.reducePow, UInt8.reduceToNat, Int.reduceEq, Int.reduceLT, Int.reduceLE, ↓reduceIte, Nat.reduceEqDiff, Nat.reduceAdd, Int.reduceToNat, reduceCtorEq, Nat.reduceLeDiff, ↓u_law8_StagePaths, bl_strN]
  refine (isPathV s (by omega)).calls rfl ?_
  rintro _ rfl
  simp -dsimp (disch := first | assumption | omega) only [↓vmPre, vmPost, vmWrd, vmDat, eq_self, forall_const, Nat.reduceLT, Nat.reduceEqDiff, Nat.reduceSub, Nat.reduceMul, Nat.reduceMod, Nat.reduceDiv, Nat.reducePow, UInt8.reduceToNat, Int.reduceEq, Int.reduceLT, Int.reduceLE, ↓reduceIte, Nat.reduceEqDiff, Nat.reduceAdd, Int.reduceToNat, reduceCtorEq, Nat.reduceLeDiff, ↓u_law8_StagePaths, bl_strN]
  refine (refIsPathV s (by omega)).calls rfl ?_
  rintro _ rfl
  simp -dsimp (disch := first | assumption | omega) only [↓vmPre, vmPost, vmWrd, vmDat, eq_self, forall_const, Nat.reduceLT, Nat.reduceEqDiff, Nat.reduceSub, Nat.reduceMul, Nat.reduceMod, Nat.reduceDiv, Nat.reducePow, UInt8.reduceToNat, Int.reduceEq, Int.reduceLT, Int.reduceLE, ↓reduceIte, Nat.reduceEqDiff, Nat.reduceAdd, Int.reduceToNat, reduceCtorEq, Nat.reduceLeDiff, ↓u_law8_StagePaths, bl_strN]
  rw [beq_self_eq_true]
end Go.Proofs.YtijidndhlgbjhaaDoor
