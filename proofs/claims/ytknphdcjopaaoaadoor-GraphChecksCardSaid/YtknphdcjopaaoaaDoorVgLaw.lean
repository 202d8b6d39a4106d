/- graph.Check and the statement GraphChecks, as the machine of values has them; what a list of nodes is that came in. -/
import Derived.Test.YtknphdcjopaaoaaDoorVgGrow
import Derived.Test.YtknphdcjopaaoaaDoorVdTell
import Derived.Test.YtknphdcjopaaoaaDoorVgTheirs
import Derived.Test.YtknphdcjopaaoaaDoorFrame
namespace Go.Proofs.YtknphdcjopaaoaaDoor
open Go.RowKit
set_option linter.unusedVariables false
set_option linter.unusedSimpArgs false

noncomputable def gerrT (l : List Nd) : TV := @ite _ (GOk l) (Classical.propDecidable _) (.val .nilIface) (eno 80)
theorem checkV (l : List Nd) (hl : l.length ≤ 1000) (hp : ∀ n ∈ l, n.ps.length ≤ 1000) : VPure Tryd.prog 9 [.sl 22 (l.map ndT)] (fun r => r = gerrT l) := by
  refine VCalls.toPureV (go_graph_Check (by simp) ?_)
  simp -dsimp (disch := first | assumption | omega) only [↓vmPre, vmPost, vmWrd, vmDat, eq_self, forall_const, Nat.reduceLT, Nat.reduceEqDiff, Nat.reduceSub, Nat.reduceMul, Nat.reduceMod, Nat.reduceDiv, Nat.reducePow, UInt8.reduceToNat, Int.reduceEq, Int.reduceLT, Int.reduceLE, ↓reduceIte, Nat.reduceEqDiff, Nat.reduceAdd, Int.reduceToNat, reduceCtorEq, Nat.reduceLeDiff, ↓u_graph_Check]
  refine (growV l hl hp).mono ?_
  rintro x H' ⟨h1, h2⟩
  by_cases hok : GOk l
  · obtain ⟨rfl, es, o, rfl⟩ := h1 hok
    have hg : gerrT l = .val .nilIface := by unfold gerrT; rw [if_pos hok]
    rw [hg]
    simp -dsimp (disch := first | assumption | omega) only [↓vmPre, vmPost, vmWrd, vmDat, eq_self, forall_const, Nat.reduceLT, Nat.reduceEqDiff, Nat.reduceSub, Nat.reduceMul, Nat.reduceMod, Nat.reduceDiv, Nat.reducePow, UInt8.reduceToNat, Int.reduceEq, Int.reduceLT, Int.reduceLE, ↓reduceIte, Nat.reduceEqDiff, Nat.reduceAdd, Int.reduceToNat, reduceCtorEq, Nat.reduceLeDiff, ↓u_graph_Check]
  · obtain rfl := h2 hok
    have hg : gerrT l = eno 80 := by unfold gerrT; rw [if_neg hok]
    rw [hg]
    simp -dsimp (disch := first | assumption | omega) only [↓vmPre, vmPost, vmWrd, vmDat, eq_self, forall_const, Nat.reduceLT, Nat.reduceEqDiff, Nat.reduceSub, Nat.reduceMul, Nat.reduceMod, Nat.reduceDiv, Nat.reducePow, UInt8.reduceToNat, Int.reduceEq, Int.reduceLT, Int.reduceLE, ↓reduceIte, Nat.reduceEqDiff, Nat.reduceAdd, Int.reduceToNat, reduceCtorEq, Nat.reduceLeDiff, ↓u_graph_Check]
    rfl
theorem tellG (l : List Nd) : VPure Tryd.prog 12 [gerrT l] (fun x => x = i64 ((gerr l : Nat) : Int)) := by
  by_cases hok : GOk l
  · rw [gerr_ok hok]
    have hg : gerrT l = .val .nilIface := by unfold gerrT; rw [if_pos hok]
    rw [hg]; exact tell0
  · rw [gerr_no hok]
    have hg : gerrT l = eno 80 := by unfold gerrT; rw [if_neg hok]
    rw [hg]; exact tell
theorem isTup_gerrT {l : List Nd} : isTup (gerrT l) = false := by
  unfold gerrT
  split <;> rfl
theorem pureT_gerrT {l : List Nd} : pureT (gerrT l) = true := by
  unfold gerrT
  split <;> rfl
theorem lawChecks (l : List Nd) : VPure Tryd.prog 3 [.sl 22 (l.map ndT)] (fun r => r = tb true) := by
  refine VCalls.toPureV (go_law9_GraphChecks (by simp) ?_)
  simp -dsimp (disch := first | assumption | omega) only [↓vmPre, vmPost, vmWrd, vmDat, eq_self, forall_const, Nat.reduceLT, Nat.reduceEqDiff, Nat.reduceSub, Nat.reduceMul, Nat.reduceMod, Nat.reduceDiv, Nat.reducePow, UInt8.reduceToNat, Int.reduceEq, Int.reduceLT, Int.reduceLE, ↓reduceIte, Nat.reduceEqDiff, Nat.reduceAdd, Int.reduceToNat, reduceCtorEq, Nat.reduceLeDiff, ↓u_law9_GraphChecks]
  refine (fewV l).calls rfl ?_
  rintro _ rfl
  cases hf : fewB l with
  | false => simp -dsimp (disch := first | assumption | omega) only [↓vmPre, vmPost, vmWrd, vmDat, eq_self, forall_const, Nat.reduceLT, Nat.reduceEqDiff, Nat.reduceSub, Nat.reduceMul, Nat.reduceMod, Nat.reduceDiv, Nat.reducePow, UInt8.reduceToNat, Int.reduceEq, Int.reduceLT, Int.reduceLE, ↓reduceIte, Nat.reduceEqDiff, Nat.reduceAdd, Int.reduceToNat, reduceCtorEq, Nat.reduceLeDiff, ↓u_law9_GraphChecks]
  | true =>
    unfold fewB at hf
    rw [Bool.and_eq_true, decide_eq_true_eq, List.all_eq_true] at hf
    obtain ⟨hl, hp⟩ := hf
    have hp' : ∀ n ∈ l, n.ps.length ≤ 1000 := fun n hn => by have := hp n hn; rw [decide_eq_true_eq] at this; omega
    simp -dsimp (disch := first | assumption | omega) only [↓vmPre, vmPost, vmWrd, vmDat, eq_self, forall_const, Nat.reduceLT, Nat.reduceEqDiff, Nat.reduceSub, Nat.reduceMul, Nat.reduceMod, Nat.reduceDiv, Nat.reducePow, UInt8.reduceToNat, Int.reduceEq, Int.reduceLT, Int.reduceLE, ↓reduceIte, Nat.reduceEqDiff, Nat.reduceAdd, Int.reduceToNat, reduceCtorEq, Nat.reduceLeDiff, ↓u_law9_GraphChecks]
    refine (checkV l (by omega) hp').calls rfl ?_
    rintro _ rfl
    simp -dsimp (disch := first | assumption | omega) only [↓vmPre, vmPost, vmWrd, vmDat, eq_self, forall_const, Nat.reduceLT, Nat.reduceEqDiff, Nat.reduceSub, Nat.reduceMul, Nat.reduceMod, Nat.reduceDiv, Nat.reducePow, UInt8.reduceToNat, Int.reduceEq, Int.reduceLT, Int.reduceLE, ↓reduceIte, Nat.reduceEqDiff, Nat.reduceAdd, Int.reduceToNat, reduceCtorEq, Nat.reduceLeDiff, ↓u_law9_GraphChecks]
    refine (theirsV l (by omega) hp').calls rfl ?_
    rintro _ rfl
    simp -dsimp (disch := first | assumption | omega) only [↓vmPre, vmPost, vmWrd, vmDat, eq_self, forall_const, Nat.reduceLT, Nat.reduceEqDiff, Nat.reduceSub, Nat.reduceMul, Nat.reduceMod, Nat.reduceDiv, Nat.reducePow, UInt8.reduceToNat, Int.reduceEq, Int.reduceLT, Int.reduceLE, ↓reduceIte, Nat.reduceEqDiff, Nat.reduceAdd, Int.reduceToNat, reduceCtorEq, Nat.reduceLeDiff, ↓u_law9_GraphChecks]
    refine (check9 l (by omega) hp').calls rfl ?_
    rintro _ rfl
    have := @isTup_gerrT l
    simp -dsimp (disch := first | assumption | omega) only [↓vmPre, vmPost, vmWrd, vmDat, eq_self, forall_const, Nat.reduceLT, Nat.reduceEqDiff, Nat.reduceSub, Nat.reduceMul, Nat.reduceMod, Nat.reduceDiv, Nat.reducePow, UInt8.reduceToNat, Int.reduceEq, Int.reduceLT, Int.reduceLE, ↓reduceIte, Nat.reduceEqDiff, Nat.reduceAdd, Int.reduceToNat, reduceCtorEq, Nat.reduceLeDiff, ↓u_law9_GraphChecks, this]
    refine (tellG l).calls (by rw [pureL, pureT_gerrT]; rfl) ?_
    rintro _ rfl
    simp -dsimp (disch := first | assumption | omega) only [↓vmPre, vmPost, vmWrd, vmDat, eq_self, forall_const, Nat.reduceLT, Nat.reduceEqDiff, Nat.reduceSub, Nat.reduceMul, Nat.reduceMod, Nat.reduceDiv, Nat.reducePow, UInt8.reduceToNat, Int.reduceEq, Int.reduceLT, Int.reduceLE, ↓reduceIte, Nat.reduceEqDiff, Nat.reduceAdd, Int.reduceToNat, reduceCtorEq, Nat.reduceLeDiff, ↓u_law9_GraphChecks]

set_option maxRecDepth 100000 in
/-- An id that came in. -/
theorem covers_id {t : TypeId} (ht : Tryd.prog.underlying t = some (.array 20 5)) (hn : Tryd.prog.cellsOf t = 20) : Covers Tryd.prog t idT (fun l => l.length = 20) :=
  covers_map (covers_array ht (k := 1) (by kernel_rfl) (by rw [hn]) (covers_u8 Tryd.underlying5) (fun _ _ => rfl)) fun l h => ⟨l, by rw [idT_is], h.1⟩
set_option maxRecDepth 100000 in
/-- Nodes that came in. -/
theorem covers_nodes : Covers Tryd.prog 22 (fun l : List Nd => .sl 22 (l.map ndT)) (fun l => ∀ n ∈ l, n.id.length = 20) := by
  refine covers_map (covers_slice (k := 22) (B := Tryd.prog.bytesOf 55) Tryd.underlying22 (by kernel_rfl) rfl (ok := fun n : Nd => n.id.length = 20) (f := ndT) ?_ (fun a _ => width_ndT) (by decide)) fun l h => ⟨l, rfl, h.1⟩
  refine covers_map (covers_struct Tryd.underlying55 (by kernel_rfl) (coversF_cons (off := 0) (n := 20) rfl (by kernel_rfl) (covers_id Tryd.underlying33 (by kernel_rfl)) (coversF_cons (off := 20) (n := 1) rfl (by kernel_rfl)
    (covers_slice (k := 20) (B := Tryd.prog.bytesOf 33) Tryd.underlying53 (by kernel_rfl) rfl (covers_id Tryd.underlying33 (by kernel_rfl)) (fun a _ => width_idT) (by decide))
    (coversF_cons (off := 21) (n := 1) rfl (by kernel_rfl) (covers_i64 Tryd.underlying2) coversF_nil)))) fun x h => ?_
  obtain ⟨i, p, t, u⟩ := x
  refine ⟨⟨i, p, t⟩, ?_, h.1⟩
  rw [ndT_is]
  simp only [idT_is]
end Go.Proofs.YtknphdcjopaaoaaDoor
