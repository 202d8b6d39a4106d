/- No package variable is known. -/
import Derived.Test.YtknphdcjopaaoaaVmT
namespace Go.Proofs.Ytknphdcjopaaoaa
open Go.RowKit
def globs : List (Nat × GV) := []
/-- Types whose objects' blocks are kept in mind. -/
def factTys : List TypeId := [78, 81]
/-- strings.Builder's String. -/
def strFns : List FuncId := [42]
/-- The type of bytes. -/
def byteTy : TypeId := 5
theorem globs_ok : globs.all (fun p => p.2.ok) = true := rfl
end Go.Proofs.Ytknphdcjopaaoaa
