/-
  NARROWER THAN 'FOR EVERY INPUT', by the rows' own cells (each row's printed sentence says how): DeflateReads: laid · DeflateRound: laid · DeflateShort: laid.
  DERIVED. THE GIVEN ROWS OF THIS SEAT. 3 by the template 'for every input the law returns true; each argument reads behind the call as it read before'; 0 by the template 'total and deterministic' (their statements: YtfgljddikcghhaaDoorTotals.lean).
  GIVEN WITH THE SEED: the statements are not yours to turn. If you find one false, say at which input.
  Laid BY PROGRAM, IN A SANDBOX (cutbox-rows.mjs): the forced cells as the released guide's own fill.sh prints them over the translation e77b39d4a37f0882… (all of the seat's roots in one cut). By AI agents, Wed Nov 11 2026. No macro, syntax, notation, axiom, sorry.
-/
import Derived.Test.YtfgljddikcghhaaDoorChecked
import GoSem.Claim
import GoSem.ClaimJoined
import GoSem.ClaimMapViews
import Derived.JoinedTies
import Derived.KernelRfl
namespace Go.Proofs.YtfgljddikcghhaaDoor
/- THE CELL 'sum', in the pinned program and in every row, IS THE sha256 OF THE DUMP (.gsa) THAT YtfgljddikcghhaaDoorProg.lean LOADS. Nothing in Lean hashes anything: it is a label: what it is worth is what the hold of that sum in a sandbox is worth. -/
noncomputable def Tryd.pinned : Pinned := { name := "ytfgljddikcghhaadoor", sum := "e77b39d4a37f0882a7812ac49fc3a6ba89f1dc9ce4f577bd2e26b75716f9b388", checked := Tryd.checked }
namespace Rows
def none {H : Type} : Left H := { results := [], args := [] }

/- WHAT THE LISTED PACKAGE-LEVEL VARIABLES READ AS WHEN THE CALL BEGINS. Each datum BY PROGRAM (the guide's laid-datum.mjs) off the statement by which the dump's own 'gosem.cut.vars' lays the variable. In a bare row this is a premise. The card (YtfgljddikcghhaaDoorCards.lean) ties it to the program's text. -/
def laid_errors_errorType {H : Type} : DataW H := .iface "internal/reflectlite.rtype" (.agg [.ptr (.lit (.string [101, 114, 114, 111, 114]))])
def laid_gitlike_deflate_order {H : Type} : DataW H := .agg [.lit (.int .i64 16), .lit (.int .i64 17), .lit (.int .i64 18), .lit (.int .i64 0), .lit (.int .i64 8), .lit (.int .i64 7), .lit (.int .i64 9), .lit (.int .i64 6), .lit (.int .i64 10), .lit (.int .i64 5), .lit (.int .i64 11), .lit (.int .i64 4), .lit (.int .i64 12), .lit (.int .i64 3), .lit (.int .i64 13), .lit (.int .i64 2), .lit (.int .i64 14), .lit (.int .i64 1), .lit (.int .i64 15)]

/-- 'gitlikelaw1.DeflateReads': WHATEVER THE INPUT: true; the input reads as it did. -/
def deflateReadsSpec : ChangeSpec := { name := "deflateReads", fn := fun _ => fun
  | [d1, d2] => { results := [.lit (.bool true)], args := [d1, d2] }
  | _ => none }
def deflateReadsRow : OpenClaim := { program := "ytfgljddikcghhaadoor", sum := "e77b39d4a37f0882a7812ac49fc3a6ba89f1dc9ce4f577bd2e26b75716f9b388", func := "gitlike/gitlikelaw1.DeflateReads", spec := "deflateReads", inPlace := ["internal/reflectlite.ValueOf", "(internal/reflectlite.Value).Type", "(internal/reflectlite.Value).IsNil", "internal/reflectlite.TypeOf", "(internal/reflectlite.Value).Elem", "(internal/reflectlite.Value).Set"], unfollowed := true, recurses := true, named := ["gitlike/deflate.order", "errors.errorType"], plainKeys := false, apart := false, laid := [("errors.errorType", laid_errors_errorType), ("gitlike/deflate.order", laid_gitlike_deflate_order)] }
def DeflateReadsSaid : Prop := deflateReadsRow.holds Tryd.pinned (OpenSpec.ofChange deflateReadsSpec)

/-- ITS FALSE NEIGHBOUR: 'it returns false'. Refute it at one input. -/
def deflateReadsWrong : ChangeSpec := { name := "deflateReads", fn := fun _ => fun
  | [d1, d2] => { results := [.lit (.bool false)], args := [d1, d2] }
  | _ => none }
def DeflateReadsWrongFalsely : Prop := deflateReadsRow.holds Tryd.pinned (OpenSpec.ofChange deflateReadsWrong)

/-- 'gitlikelaw1.DeflateRound': WHATEVER THE INPUT: true; the input reads as it did. -/
def deflateRoundSpec : ChangeSpec := { name := "deflateRound", fn := fun _ => fun
  | [d1, d2] => { results := [.lit (.bool true)], args := [d1, d2] }
  | _ => none }
def deflateRoundRow : OpenClaim := { program := "ytfgljddikcghhaadoor", sum := "e77b39d4a37f0882a7812ac49fc3a6ba89f1dc9ce4f577bd2e26b75716f9b388", func := "gitlike/gitlikelaw1.DeflateRound", spec := "deflateRound", inPlace := ["internal/reflectlite.ValueOf", "(internal/reflectlite.Value).Type", "(internal/reflectlite.Value).IsNil", "internal/reflectlite.TypeOf", "(internal/reflectlite.Value).Elem", "(internal/reflectlite.Value).Set"], unfollowed := true, recurses := true, named := ["gitlike/deflate.order", "errors.errorType"], plainKeys := false, apart := false, laid := [("errors.errorType", laid_errors_errorType), ("gitlike/deflate.order", laid_gitlike_deflate_order)] }
def DeflateRoundSaid : Prop := deflateRoundRow.holds Tryd.pinned (OpenSpec.ofChange deflateRoundSpec)

/-- ITS FALSE NEIGHBOUR: 'it returns false'. Refute it at one input. -/
def deflateRoundWrong : ChangeSpec := { name := "deflateRound", fn := fun _ => fun
  | [d1, d2] => { results := [.lit (.bool false)], args := [d1, d2] }
  | _ => none }
def DeflateRoundWrongFalsely : Prop := deflateRoundRow.holds Tryd.pinned (OpenSpec.ofChange deflateRoundWrong)

/-- 'gitlikelaw1.DeflateShort': WHATEVER THE INPUT: true; the input reads as it did. -/
def deflateShortSpec : ChangeSpec := { name := "deflateShort", fn := fun _ => fun
  | [d1, d2] => { results := [.lit (.bool true)], args := [d1, d2] }
  | _ => none }
def deflateShortRow : OpenClaim := { program := "ytfgljddikcghhaadoor", sum := "e77b39d4a37f0882a7812ac49fc3a6ba89f1dc9ce4f577bd2e26b75716f9b388", func := "gitlike/gitlikelaw1.DeflateShort", spec := "deflateShort", inPlace := ["internal/reflectlite.ValueOf", "(internal/reflectlite.Value).Type", "(internal/reflectlite.Value).IsNil", "internal/reflectlite.TypeOf", "(internal/reflectlite.Value).Elem", "(internal/reflectlite.Value).Set"], unfollowed := true, recurses := true, named := ["gitlike/deflate.order", "errors.errorType"], plainKeys := false, apart := false, laid := [("errors.errorType", laid_errors_errorType), ("gitlike/deflate.order", laid_gitlike_deflate_order)] }
def DeflateShortSaid : Prop := deflateShortRow.holds Tryd.pinned (OpenSpec.ofChange deflateShortSpec)

/-- ITS FALSE NEIGHBOUR: 'it returns false'. Refute it at one input. -/
def deflateShortWrong : ChangeSpec := { name := "deflateShort", fn := fun _ => fun
  | [d1, d2] => { results := [.lit (.bool false)], args := [d1, d2] }
  | _ => none }
def DeflateShortWrongFalsely : Prop := deflateShortRow.holds Tryd.pinned (OpenSpec.ofChange deflateShortWrong)

/- THE SECOND FORM. 'bulk': how many values and letters a reading holds, each counted each time it is reached (what is shared counts as often as it is met; a slice's spare places count too). A statement '..UptoSaid' is the law's where the arguments, and the package variables that the reading takes, are together of bulk at most 1048576: NARROWER than '..Said'. Prove '..Said' where nothing that the law and all that it calls make is longer than what came in: it says more and counts as full. Else prove '..UptoSaid'. A law counts once. -/
mutual
def uptoBulk {H : Type} : DataW H → Nat
  | .lit (.string bytes) => bytes.length + 1
  | .lit _ => 1
  | .nil => 1
  | .ptr d => uptoBulk d + 1
  | .slice elems spare => uptoBulkAll elems + uptoBulkAll spare + 1
  | .agg parts => uptoBulkAll parts + 1
  | .iface _ d => uptoBulk d + 1
  | .map entries => uptoBulkEntries entries + 1
  | .held _ => 1
def uptoBulkAll {H : Type} : List (DataW H) → Nat
  | [] => 0
  | d :: r => uptoBulk d + uptoBulkAll r
def uptoBulkEntries {H : Type} : List (Lit × DataW H) → Nat
  | [] => 0
  | x :: r => uptoBulkEntry x + uptoBulkEntries r
def uptoBulkEntry {H : Type} : Lit × DataW H → Nat
  | (.string bytes, d) => bytes.length + uptoBulk d + 1
  | (_, d) => uptoBulk d + 1
 end
def uptoSmall : (H : Type) → List (DataW H) → Bool := fun _ ds => decide (uptoBulkAll ds ≤ 1048576)
def OpenSpec.upto (s : _root_.Go.ChangeSpec) : _root_.Go.OpenSpec := { _root_.Go.OpenSpec.ofChange s with cond := some uptoSmall }

/-- 'gitlikelaw1.DeflateReads', WHERE WHAT IT READS IS OF BULK AT MOST 1048576: true; the input reads as it did. -/
def deflateReadsUptoRow : OpenClaim := { program := "ytfgljddikcghhaadoor", sum := "e77b39d4a37f0882a7812ac49fc3a6ba89f1dc9ce4f577bd2e26b75716f9b388", func := "gitlike/gitlikelaw1.DeflateReads", spec := "deflateReads", inPlace := ["internal/reflectlite.ValueOf", "(internal/reflectlite.Value).Type", "(internal/reflectlite.Value).IsNil", "internal/reflectlite.TypeOf", "(internal/reflectlite.Value).Elem", "(internal/reflectlite.Value).Set"], unfollowed := true, recurses := true, named := ["gitlike/deflate.order", "errors.errorType"], plainKeys := false, apart := false, laid := [("errors.errorType", laid_errors_errorType), ("gitlike/deflate.order", laid_gitlike_deflate_order)], narrowed := true }
def DeflateReadsUptoSaid : Prop := deflateReadsUptoRow.holds Tryd.pinned (OpenSpec.upto deflateReadsSpec)

/-- 'gitlikelaw1.DeflateRound', WHERE WHAT IT READS IS OF BULK AT MOST 1048576: true; the input reads as it did. -/
def deflateRoundUptoRow : OpenClaim := { program := "ytfgljddikcghhaadoor", sum := "e77b39d4a37f0882a7812ac49fc3a6ba89f1dc9ce4f577bd2e26b75716f9b388", func := "gitlike/gitlikelaw1.DeflateRound", spec := "deflateRound", inPlace := ["internal/reflectlite.ValueOf", "(internal/reflectlite.Value).Type", "(internal/reflectlite.Value).IsNil", "internal/reflectlite.TypeOf", "(internal/reflectlite.Value).Elem", "(internal/reflectlite.Value).Set"], unfollowed := true, recurses := true, named := ["gitlike/deflate.order", "errors.errorType"], plainKeys := false, apart := false, laid := [("errors.errorType", laid_errors_errorType), ("gitlike/deflate.order", laid_gitlike_deflate_order)], narrowed := true }
def DeflateRoundUptoSaid : Prop := deflateRoundUptoRow.holds Tryd.pinned (OpenSpec.upto deflateRoundSpec)

/-- 'gitlikelaw1.DeflateShort', WHERE WHAT IT READS IS OF BULK AT MOST 1048576: true; the input reads as it did. -/
def deflateShortUptoRow : OpenClaim := { program := "ytfgljddikcghhaadoor", sum := "e77b39d4a37f0882a7812ac49fc3a6ba89f1dc9ce4f577bd2e26b75716f9b388", func := "gitlike/gitlikelaw1.DeflateShort", spec := "deflateShort", inPlace := ["internal/reflectlite.ValueOf", "(internal/reflectlite.Value).Type", "(internal/reflectlite.Value).IsNil", "internal/reflectlite.TypeOf", "(internal/reflectlite.Value).Elem", "(internal/reflectlite.Value).Set"], unfollowed := true, recurses := true, named := ["gitlike/deflate.order", "errors.errorType"], plainKeys := false, apart := false, laid := [("errors.errorType", laid_errors_errorType), ("gitlike/deflate.order", laid_gitlike_deflate_order)], narrowed := true }
def DeflateShortUptoSaid : Prop := deflateShortUptoRow.holds Tryd.pinned (OpenSpec.upto deflateShortSpec)

end Rows
end Go.Proofs.YtfgljddikcghhaaDoor
