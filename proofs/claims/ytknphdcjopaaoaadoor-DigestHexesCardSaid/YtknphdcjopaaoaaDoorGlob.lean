/- The package variable errors.errorType is known: it is the handle of the type 'error'. -/
import Derived.Test.YtknphdcjopaaoaaDoorVmT
namespace Go.Proofs.YtknphdcjopaaoaaDoor
open Go.RowKit
def globs : List (Nat × GV) := [(0, .one (.iface 115 (.agg #[.pointer (some ⟨4, 25, none⟩)])))]
/-- Types whose objects' blocks are kept in mind. -/
def factTys : List TypeId := [70]
theorem globs_ok : globs.all (fun p => p.2.ok) = true := rfl
end Go.Proofs.YtknphdcjopaaoaaDoor
