/- gitlikeref9.Find: where a node lies. -/
import Derived.Test.YtknphdcjopaaoaaDoorCodeG
namespace Go.Proofs.YtknphdcjopaaoaaDoor
open Go.RowKit
set_option linter.unusedVariables false
set_option linter.unusedSimpArgs false

/-- A node: its id, its parents, its time. -/
structure Nd where
  id : List UInt8
  ps : List (List UInt8)
  tm : Int
def idT (l : List UInt8) : TV := .arr 20 1 (l.map by8)
theorem idT_is {l : List UInt8} : idT l = .arr 20 1 (l.map by8) := by unfold idT; rfl
def ndT (n : Nd) : TV := .agg [idT n.id, .sl 20 (n.ps.map idT), i64 n.tm]
theorem ndT_is {n : Nd} : ndT n = .agg [.arr 20 1 (n.id.map by8), .sl 20 (n.ps.map idT), i64 n.tm] := by unfold ndT; rw [idT_is]
theorem width_idT {l : List UInt8} : width (idT l) = 20 := by rw [idT_is]; rfl
/-- Where it lies; -1: nowhere. -/
def fnd (l : List Nd) (x : List UInt8) : Int := if ∃ n ∈ l, n.id = x then ((l.findIdx fun n => n.id == x : Nat) : Int) else -1
theorem fnd_at {l : List Nd} {x : List UInt8} {i : Nat} (hi : i < l.length) (h0 : ∀ k (hk : k < i), l[k].id ≠ x) (h : l[i].id = x) : fnd l x = i := by
  unfold fnd
  rw [if_pos ⟨l[i], List.getElem_mem hi, h⟩]
  congr 1
  rw [List.findIdx_eq hi]
  exact ⟨by simpa using h, fun k hk => by simpa using h0 k hk⟩
theorem fnd_no {l : List Nd} {x : List UInt8} (h0 : ∀ k (hk : k < l.length), l[k].id ≠ x) : fnd l x = -1 := by
  unfold fnd
  rw [if_neg]
  rintro ⟨n, hn, h⟩
  obtain ⟨k, hk, rfl⟩ := List.mem_iff_getElem.1 hn
  exact h0 k hk h
theorem find9 (l : List Nd) (x : List UInt8) (hl : l.length ≤ 100000) : VPure Tryd.prog 30 [.sl 22 (l.map ndT), idT x] (fun r => r = i64 (fnd l x)) := by
  rw [idT_is]
  refine VCalls.toPureV (go_ref9_Find (by simp) ?_)
  simp -dsimp (disch := first | assumption | omega) only [↓vmPre, vmPost, vmWrd, vmDat, eq_self, forall_const, Nat.reduceLT, Nat.reduceEqDiff, Nat.reduceSub, Nat.reduceMul, Nat.reduceMod, Nat.reduceDiv, Nat.reducePow, UInt8.reduceToNat, Int.reduceEq, Int.reduceLT, Int.reduceLE, ↓reduceIte, Nat.reduceEqDiff, Nat.reduceAdd, Int.reduceToNat, reduceCtorEq, Nat.reduceLeDiff, ↓u_ref9_Find]
  refine w_loop (fun m e H => ∃ i : Nat, m = l.length - i ∧ ∃ hi : i ≤ l.length, (∀ k (hk : k < i), l[k].id ≠ x) ∧ e = [(0, .sl 22 (l.map ndT)), (3, .op 0 0 []), (5, i64 (i : Int))] ∧ H = [.obj 0 (.arr 20 1 (x.map by8))]) l.length ?_ ?_
  · exact ⟨0, by simp, by simp, fun k hk => by omega, rfl, rfl⟩
  · rintro m e H ⟨i, rfl, hi, h0, rfl, rfl⟩
    by_cases h : i < l.length
    · have hg : l[i]? = some l[i] := List.getElem?_eq_getElem h
      simp -dsimp (disch := first | assumption | omega) only [↓vmPre, vmPost, vmWrd, vmDat, eq_self, forall_const, Nat.reduceLT, Nat.reduceEqDiff, Nat.reduceSub, Nat.reduceMul, Nat.reduceMod, Nat.reduceDiv, Nat.reducePow, UInt8.reduceToNat, Int.reduceEq, Int.reduceLT, Int.reduceLE, ↓reduceIte, Nat.reduceEqDiff, Nat.reduceAdd, Int.reduceToNat, reduceCtorEq, Nat.reduceLeDiff, ↓u_ref9_Find, hg, ndT_is]
      by_cases he : l[i].id = x
      · have hb : (l[i].id == x) = true := by simpa using he
        rw [hb]
        simp -dsimp (disch := first | assumption | omega) only [↓vmPre, vmPost, vmWrd, vmDat, eq_self, forall_const, Nat.reduceLT, Nat.reduceEqDiff, Nat.reduceSub, Nat.reduceMul, Nat.reduceMod, Nat.reduceDiv, Nat.reducePow, UInt8.reduceToNat, Int.reduceEq, Int.reduceLT, Int.reduceLE, ↓reduceIte, Nat.reduceEqDiff, Nat.reduceAdd, Int.reduceToNat, reduceCtorEq, Nat.reduceLeDiff, ↓u_ref9_Find]
        rw [fnd_at h h0 he]
      · have hb : (l[i].id == x) = false := by simpa using he
        rw [hb]
        simp -dsimp (disch := first | assumption | omega) only [↓vmPre, vmPost, vmWrd, vmDat, eq_self, forall_const, Nat.reduceLT, Nat.reduceEqDiff, Nat.reduceSub, Nat.reduceMul, Nat.reduceMod, Nat.reduceDiv, Nat.reducePow, UInt8.reduceToNat, Int.reduceEq, Int.reduceLT, Int.reduceLE, ↓reduceIte, Nat.reduceEqDiff, Nat.reduceAdd, Int.reduceToNat, reduceCtorEq, Nat.reduceLeDiff, ↓u_ref9_Find]
        refine Rnd_keep (l.length - (i + 1)) (by omega) (by simp) ⟨i + 1, rfl, by omega, fun k hk => ?_, rfl, rfl⟩
        by_cases hki : k = i
        · subst hki; exact he
        · exact h0 k (by omega)
    · have hi2 : i = l.length := by omega
      subst hi2
      simp -dsimp (disch := first | assumption | omega) only [↓vmPre, vmPost, vmWrd, vmDat, eq_self, forall_const, Nat.reduceLT, Nat.reduceEqDiff, Nat.reduceSub, Nat.reduceMul, Nat.reduceMod, Nat.reduceDiv, Nat.reducePow, UInt8.reduceToNat, Int.reduceEq, Int.reduceLT, Int.reduceLE, ↓reduceIte, Nat.reduceEqDiff, Nat.reduceAdd, Int.reduceToNat, reduceCtorEq, Nat.reduceLeDiff, ↓u_ref9_Find]
      rw [fnd_no h0]
end Go.Proofs.YtknphdcjopaaoaaDoor
