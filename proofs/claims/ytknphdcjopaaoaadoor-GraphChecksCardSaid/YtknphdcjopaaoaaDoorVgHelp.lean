/- GraphChecks' helpers: few, plain. -/
import Derived.Test.YtknphdcjopaaoaaDoorVgFind
namespace Go.Proofs.YtknphdcjopaaoaaDoor
open Go.RowKit
set_option linter.unusedVariables false
set_option linter.unusedSimpArgs false

theorem one_set {a b : TV} : (List.replicate 1 a).set 0 b = [b] := by simp
theorem take_one' {b : TV} : [b].take 1 = [b] := by simp
theorem take_mapT {α : Type} {f : α → TV} {l : List α} {n : Nat} (h : n = l.length) : (l.map f).take n = l.map f := by rw [List.take_of_length_le (by simp [h])]
theorem map_idT_app {l : List (List UInt8)} {x : List UInt8} : l.map idT ++ [TV.arr 20 1 (x.map by8)] = (l ++ [x]).map idT := by simp [idT]
theorem lays_idT {l : List UInt8} : lays (idT l) = true := by rw [idT_is]; rfl
theorem pureT_idT {l : List UInt8} : pureT (idT l) = true := by rw [idT_is]; rfl
theorem map_idT_app' {l : List (List UInt8)} {x : List UInt8} : l.map idT ++ [idT x] = (l ++ [x]).map idT := by simp
theorem isAg_idT {l : List UInt8} : isAg (idT l) = true := by rw [idT_is]; rfl
/-- few: no more than anything is claimed of? -/
def fewB (l : List Nd) : Bool := decide (l.length ≤ 40) && l.all fun n => decide (n.ps.length ≤ 40)
theorem fewV (l : List Nd) : VPure Tryd.prog 8 [.sl 22 (l.map ndT)] (fun r => r = tb (fewB l)) := by
  refine VCalls.toPureV (go_law9_few (by simp) ?_)
  by_cases hl : 40 < l.length
  · have : fewB l = false := by unfold fewB; simp; omega
    rw [this]
    simp -dsimp (disch := first | assumption | omega) only [↓vmPre, vmPost, vmWrd, vmDat, eq_self, forall_const, Nat.reduceLT, Nat.reduceEqDiff, Nat.reduceSub, Nat.reduceMul, Nat.reduceMod, Nat.reduceDiv, Nat.reducePow, UInt8.reduceToNat, Int.reduceEq, Int.reduceLT, Int.reduceLE, ↓reduceIte, Nat.reduceEqDiff, Nat.reduceAdd, Int.reduceToNat, reduceCtorEq, Nat.reduceLeDiff, ↓u_law9_few]
  · simp -dsimp (disch := first | assumption | omega) only [↓vmPre, vmPost, vmWrd, vmDat, eq_self, forall_const, Nat.reduceLT, Nat.reduceEqDiff, Nat.reduceSub, Nat.reduceMul, Nat.reduceMod, Nat.reduceDiv, Nat.reducePow, UInt8.reduceToNat, Int.reduceEq, Int.reduceLT, Int.reduceLE, ↓reduceIte, Nat.reduceEqDiff, Nat.reduceAdd, Int.reduceToNat, reduceCtorEq, Nat.reduceLeDiff, ↓u_law9_few]
    refine w_loop (fun m e H => ∃ i : Nat, m = l.length - i ∧ i ≤ l.length ∧ (∀ n ∈ l.take i, n.ps.length ≤ 40) ∧ e = [(0, .sl 22 (l.map ndT)), (3, i64 (i : Int))] ∧ H = []) l.length ?_ ?_
    · exact ⟨0, by simp, by simp, by simp, rfl, rfl⟩
    · rintro m e H ⟨i, rfl, hi, h0, rfl, rfl⟩
      by_cases h : i < l.length
      · have hg : l[i]? = some l[i] := List.getElem?_eq_getElem h
        by_cases hp : 40 < l[i].ps.length
        · have : fewB l = false := by
            unfold fewB
            rw [Bool.and_eq_false_iff]; right
            rw [List.all_eq_false]
            exact ⟨l[i], List.getElem_mem h, by simpa using hp⟩
          rw [this]
          simp -dsimp (disch := first | assumption | omega) only [↓vmPre, vmPost, vmWrd, vmDat, eq_self, forall_const, Nat.reduceLT, Nat.reduceEqDiff, Nat.reduceSub, Nat.reduceMul, Nat.reduceMod, Nat.reduceDiv, Nat.reducePow, UInt8.reduceToNat, Int.reduceEq, Int.reduceLT, Int.reduceLE, ↓reduceIte, Nat.reduceEqDiff, Nat.reduceAdd, Int.reduceToNat, reduceCtorEq, Nat.reduceLeDiff, ↓u_law9_few, hg, ndT_is]
        · simp -dsimp (disch := first | assumption | omega) only [↓vmPre, vmPost, vmWrd, vmDat, eq_self, forall_const, Nat.reduceLT, Nat.reduceEqDiff, Nat.reduceSub, Nat.reduceMul, Nat.reduceMod, Nat.reduceDiv, Nat.reducePow, UInt8.reduceToNat, Int.reduceEq, Int.reduceLT, Int.reduceLE, ↓reduceIte, Nat.reduceEqDiff, Nat.reduceAdd, Int.reduceToNat, reduceCtorEq, Nat.reduceLeDiff, ↓u_law9_few, hg, ndT_is]
          refine Rnd_keep (l.length - (i + 1)) (by omega) (by simp) ⟨i + 1, rfl, by omega, fun n hn => ?_, rfl, rfl⟩
          rw [List.take_succ_eq_append_getElem h, List.mem_append, List.mem_singleton] at hn
          rcases hn with hn | rfl
          · exact h0 n hn
          · omega
      · have hi2 : i = l.length := by omega
        rw [hi2, List.take_length] at h0
        have : fewB l = true := by
          unfold fewB
          rw [Bool.and_eq_true, List.all_eq_true]
          exact ⟨by simp; omega, fun n hn => by simpa using h0 n hn⟩
        rw [this]
        simp -dsimp (disch := first | assumption | omega) only [↓vmPre, vmPost, vmWrd, vmDat, eq_self, forall_const, Nat.reduceLT, Nat.reduceEqDiff, Nat.reduceSub, Nat.reduceMul, Nat.reduceMod, Nat.reduceDiv, Nat.reducePow, UInt8.reduceToNat, Int.reduceEq, Int.reduceLT, Int.reduceLE, ↓reduceIte, Nat.reduceEqDiff, Nat.reduceAdd, Int.reduceToNat, reduceCtorEq, Nat.reduceLeDiff, ↓u_law9_few]
theorem plainV (l : List (List UInt8)) (hl : l.length ≤ 1000) : VPure Tryd.prog 29 [.sl 20 (l.map idT)] (fun r => r = .sl 20 (l.map idT)) := by
  refine VCalls.toPureV (go_law9_plain (by simp) ?_)
  simp -dsimp (disch := first | assumption | omega) only [↓vmPre, vmPost, vmWrd, vmDat, eq_self, forall_const, Nat.reduceLT, Nat.reduceEqDiff, Nat.reduceSub, Nat.reduceMul, Nat.reduceMod, Nat.reduceDiv, Nat.reducePow, UInt8.reduceToNat, Int.reduceEq, Int.reduceLT, Int.reduceLE, ↓reduceIte, Nat.reduceEqDiff, Nat.reduceAdd, Int.reduceToNat, reduceCtorEq, Nat.reduceLeDiff, ↓u_law9_plain]
  refine w_loop (fun m e H => ∃ i v : Nat, m = l.length - i ∧ i ≤ l.length ∧ e = [(0, .sl 20 (l.map idT)), (3, .os 20 0 v [] 0 i i), (4, i64 (i : Int))] ∧ H = [.obj v (.arr i 20 ((l.take i).map idT))]) l.length ?_ ?_
  · exact ⟨0, 0, by simp, by simp, rfl, by simp⟩
  · rintro m e H ⟨i, v, rfl, hi, rfl, rfl⟩
    by_cases h : i < l.length
    · have hg : l[i]? = some l[i] := List.getElem?_eq_getElem h
      have hti : (l.take i).length = i := by simp; omega
      have htk : ((l.take i).map idT).take i = (l.take i).map idT := take_mapT hti.symm
      generalize hr : l.take i = r at *
      simp -dsimp (disch := first | assumption | omega) only [↓vmPre, vmPost, vmWrd, vmDat, eq_self, forall_const, Nat.reduceLT, Nat.reduceEqDiff, Nat.reduceSub, Nat.reduceMul, Nat.reduceMod, Nat.reduceDiv, Nat.reducePow, UInt8.reduceToNat, Int.reduceEq, Int.reduceLT, Int.reduceLE, ↓reduceIte, Nat.reduceEqDiff, Nat.reduceAdd, Int.reduceToNat, reduceCtorEq, Nat.reduceLeDiff, ↓u_law9_plain, hg, isAg_idT, width_idT, one_set, take_one', htk, hti, lays_idT, pureT_idT, map_idT_app']
      refine Rnd_cut (l.length - (i + 1)) 1 (by omega) (by omega) rfl rfl ⟨i + 1, v + 1, rfl, by omega, rfl, ?_⟩
      rw [List.take_succ_eq_append_getElem h, hr]; rfl
    · have hi2 : i = l.length := by omega
      subst hi2
      rw [List.take_length]
      have htk : (l.map idT).take l.length = l.map idT := take_mapT rfl
      simp -dsimp (disch := first | assumption | omega) only [↓vmPre, vmPost, vmWrd, vmDat, eq_self, forall_const, Nat.reduceLT, Nat.reduceEqDiff, Nat.reduceSub, Nat.reduceMul, Nat.reduceMod, Nat.reduceDiv, Nat.reducePow, UInt8.reduceToNat, Int.reduceEq, Int.reduceLT, Int.reduceLE, ↓reduceIte, Nat.reduceEqDiff, Nat.reduceAdd, Int.reduceToNat, reduceCtorEq, Nat.reduceLeDiff, ↓u_law9_plain, htk]
end Go.Proofs.YtknphdcjopaaoaaDoor
