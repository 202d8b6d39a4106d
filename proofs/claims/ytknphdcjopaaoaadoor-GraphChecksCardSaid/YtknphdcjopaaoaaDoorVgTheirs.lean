/- GraphChecks' helper theirs. -/
import Derived.Test.YtknphdcjopaaoaaDoorVgHelp
namespace Go.Proofs.YtknphdcjopaaoaaDoor
open Go.RowKit
set_option linter.unusedVariables false
set_option linter.unusedSimpArgs false

theorem map_ndT_app {l : List Nd} {n : Nd} : l.map ndT ++ [TV.agg [.arr 20 1 (n.id.map by8), .sl 20 (n.ps.map idT), i64 n.tm]] = (l ++ [n]).map ndT := by simp [ndT_is]
theorem theirsV (l : List Nd) (hl : l.length ≤ 1000) (hp : ∀ n ∈ l, n.ps.length ≤ 1000) : VPure Tryd.prog 10 [.sl 22 (l.map ndT)] (fun r => r = .sl 22 (l.map ndT)) := by
  refine VCalls.toPureV (go_law9_theirs (by simp) ?_)
  simp -dsimp (disch := first | assumption | omega) only [↓vmPre, vmPost, vmWrd, vmDat, eq_self, forall_const, Nat.reduceLT, Nat.reduceEqDiff, Nat.reduceSub, Nat.reduceMul, Nat.reduceMod, Nat.reduceDiv, Nat.reducePow, UInt8.reduceToNat, Int.reduceEq, Int.reduceLT, Int.reduceLE, ↓reduceIte, Nat.reduceEqDiff, Nat.reduceAdd, Int.reduceToNat, reduceCtorEq, Nat.reduceLeDiff, ↓u_law9_theirs]
  refine w_loop (fun m e H => ∃ i v : Nat, m = l.length - i ∧ i ≤ l.length ∧ e = [(0, .sl 22 (l.map ndT)), (3, .os 22 0 v [] 0 i i), (4, i64 (i : Int))] ∧ H = [.obj v (.arr i 22 ((l.take i).map ndT))]) l.length ?_ ?_
  · exact ⟨0, 0, by simp, by simp, rfl, by simp⟩
  · rintro m e H ⟨i, v, rfl, hi, rfl, rfl⟩
    by_cases h : i < l.length
    · have hg : l[i]? = some l[i] := List.getElem?_eq_getElem h
      have hpi := hp l[i] (List.getElem_mem h)
      have hti : (l.take i).length = i := by simp; omega
      have htk : ((l.take i).map ndT).take i = (l.take i).map ndT := take_mapT hti.symm
      have hsucc := List.take_succ_eq_append_getElem h
      generalize hr : l.take i = r at *
      generalize hn : l[i] = n at *
      simp -dsimp (disch := first | assumption | omega) only [↓vmPre, vmPost, vmWrd, vmDat, eq_self, forall_const, Nat.reduceLT, Nat.reduceEqDiff, Nat.reduceSub, Nat.reduceMul, Nat.reduceMod, Nat.reduceDiv, Nat.reducePow, UInt8.reduceToNat, Int.reduceEq, Int.reduceLT, Int.reduceLE, ↓reduceIte, Nat.reduceEqDiff, Nat.reduceAdd, Int.reduceToNat, reduceCtorEq, Nat.reduceLeDiff, ↓u_law9_theirs, hg, ndT_is]
      refine (plainV n.ps hpi).calls rfl ?_
      rintro x rfl
      simp -dsimp (disch := first | assumption | omega) only [↓vmPre, vmPost, vmWrd, vmDat, eq_self, forall_const, Nat.reduceLT, Nat.reduceEqDiff, Nat.reduceSub, Nat.reduceMul, Nat.reduceMod, Nat.reduceDiv, Nat.reducePow, UInt8.reduceToNat, Int.reduceEq, Int.reduceLT, Int.reduceLE, ↓reduceIte, Nat.reduceEqDiff, Nat.reduceAdd, Int.reduceToNat, reduceCtorEq, Nat.reduceLeDiff, ↓u_law9_theirs, hg, ndT_is, one_set, take_one', htk, hti, map_ndT_app]
      exact Rnd_cut (l.length - (i + 1)) 1 (by omega) (by omega) rfl rfl ⟨i + 1, v + 1, rfl, by omega, rfl, by rw [hsucc]; rfl⟩
    · have hi2 : i = l.length := by omega
      subst hi2
      rw [List.take_length]
      have htk : (l.map ndT).take l.length = l.map ndT := take_mapT rfl
      simp -dsimp (disch := first | assumption | omega) only [↓vmPre, vmPost, vmWrd, vmDat, eq_self, forall_const, Nat.reduceLT, Nat.reduceEqDiff, Nat.reduceSub, Nat.reduceMul, Nat.reduceMod, Nat.reduceDiv, Nat.reducePow, UInt8.reduceToNat, Int.reduceEq, Int.reduceLT, Int.reduceLE, ↓reduceIte, Nat.reduceEqDiff, Nat.reduceAdd, Int.reduceToNat, reduceCtorEq, Nat.reduceLeDiff, ↓u_law9_theirs, htk]
end Go.Proofs.YtknphdcjopaaoaaDoor
