/- What is known of package variables that nobody changes: their cells. No program in sight. -/
import Derived.WalkKit
import Derived.Lib.Hide
import Derived.Deep.MidRow
namespace Go.Proofs.Ytknphdcjopaaoaa
open Go.RowKit
set_option autoImplicit false

/-- One value; or an array: how many elements, how many cells each, the elements' cells. -/
inductive GV where
  | one (v : Value)
  | row (n k : Nat) (rows : List (List Value))
def GV.cells : GV → List Value
  | .one v => [v]
  | .row _ _ rows => rows.flatten
def GV.ok : GV → Bool
  | .one v => v.oneCell'
  | .row n k rows => decide (rows.length = n) && rows.all fun r => decide (r.length = k) && r.all (·.oneCell')
end Go.Proofs.Ytknphdcjopaaoaa
