/- strings.Builder: the check for copies. -/
import Derived.Test.YtknphdcjopaaoaaProg
import Derived.Test.YtknphdcjopaaoaaVmO
import Derived.WalkKit
import Derived.Lib.Builder
import Derived.Lib.UnsafeStr
import Derived.Laws.Externs
namespace Go.Proofs.Ytknphdcjopaaoaa
open Go.RowKit
set_option linter.unusedVariables false

theorem builder_info : ∃ j, Try.prog.info? 78 = some j ∧ j.size ≠ 0 := by
  have h : ((Try.prog.info? 78).map fun j => decide (j.size ≠ 0)) = some true := by kernel_rfl
  obtain ⟨j, h1, h2⟩ := Option.map_eq_some_iff.1 h
  exact ⟨j, h1, by simpa using h2⟩
set_option maxHeartbeats 2000000 in
set_option maxRecDepth 100000 in
theorem copyCheck_used (b o : Nat) (w : World) (h0 : w.cell? ⟨b, o, none⟩ = some (.pointer (some ⟨b, o, none⟩))) :
    Calls Try.prog 53 #[.pointer (some ⟨b, o, none⟩)] w fun e w' => e = .returned (.tuple #[]) ∧ w' = w := by
  obtain ⟨j, hj, _⟩ := builder_info
  go_enter Try.func53, Try.ntmps53
  go_wp2
  rw [Lib.run_neq_ptr_same w _ Try.underlying76 hj]
  go_wp2
  go_end0
  exact ⟨rfl, rfl⟩
set_option maxHeartbeats 2000000 in
set_option maxRecDepth 100000 in
theorem copyCheck_fresh (b o : Nat) (T : TypeId) (m : Nat) (w : World) (h0 : w.cell? ⟨b, o, none⟩ = some (.pointer none)) (hsh : w.shape? b = some (T, m)) (hom : o < m) (hlies : liesAt Try.prog Try.prog.depth T (m / Try.prog.cellsOf T) o 78 1 = true) (hfz : w.frozen? ⟨b, o, none⟩ = false) :
    Calls Try.prog 53 #[.pointer (some ⟨b, o, none⟩)] w fun e w' => e = .returned (.tuple #[]) ∧ w' = w.setCell ⟨b, o, none⟩ (.pointer (some ⟨b, o, none⟩)) := by
  obtain ⟨j, hj, hj0⟩ := builder_info
  go_enter Try.func53, Try.ntmps53
  go_wp2
  rw [Lib.run_to_unsafe w ⟨b, o, none⟩ Try.underlying76 Try.underlying104 hj hj0 hsh hom]
  simp only [Result.andThen]
  rw [Oper.upon_value]
  go_wp2
  rw [run_callFunc_extern Try.func61 (by kernel_rfl) (by kernel_rfl) (by kernel_rfl) (e := Extern.AbiNoEscape.same) (by kernel_rfl)]
  rw [Lib.run_noEscape]
  simp only [Result.andThen]
  rw [Oper.upon_value]
  go_wp2
  rw [Lib.run_from_unsafe w ⟨b, o, none⟩ Try.underlying104 Try.underlying76 hj hsh hlies]
  simp only [Result.andThen]
  rw [Oper.upon_value]
  go_wp2
  go_end0
  exact ⟨rfl, rfl⟩
end Go.Proofs.Ytknphdcjopaaoaa
