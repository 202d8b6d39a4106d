/- No package variable is known. -/
import Derived.Test.YtknphdcjopaaoaaVmT
namespace Go.Proofs.Ytknphdcjopaaoaa
open Go.RowKit
def globs : List (Nat × GV) := []
theorem globs_ok : globs.all (fun p => p.2.ok) = true := rfl
end Go.Proofs.Ytknphdcjopaaoaa
