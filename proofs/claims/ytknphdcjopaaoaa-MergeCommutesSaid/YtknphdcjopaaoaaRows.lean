/-
  No cell of these rows narrows 'for every input' (looked for: loops, veiled, ifaces, maps, wideKeys, modest, calm, conditions, laid).
  DERIVED. THE GIVEN ROWS OF THIS SEAT. 7 by the template 'for every input the law returns true; each argument reads behind the call as it read before'; 0 by the template 'total and deterministic' (their statements: YtknphdcjopaaoaaTotals.lean).
  GIVEN WITH THE SEED: the statements are not yours to turn. If you find one false, say at which input.
  Laid BY PROGRAM, IN A SANDBOX (cutbox-rows.mjs): the forced cells as the released guide's own fill.sh prints them over the translation 773ed0c709ca0005… (all of the seat's roots in one cut). By AI agents, Wed Nov 11 2026. No macro, syntax, notation, axiom, sorry.
-/
import Derived.Test.YtknphdcjopaaoaaChecked
import GoSem.Claim
import GoSem.ClaimJoined
import GoSem.ClaimMapViews
import Derived.JoinedTies
import Derived.KernelRfl
namespace Go.Proofs.Ytknphdcjopaaoaa
/- THE CELL 'sum', in the pinned program and in every row, IS THE sha256 OF THE DUMP (.gsa) THAT YtknphdcjopaaoaaProg.lean LOADS. Nothing in Lean hashes anything: it is a label: what it is worth is what the hold of that sum in a sandbox is worth. -/
noncomputable def Try.pinned : Pinned := { name := "ytknphdcjopaaoaa", sum := "773ed0c709ca0005907ff9c13638af26a58e2d9930fa3355a389909f8876ef57", checked := Try.checked }
namespace Rows
def none {H : Type} : Left H := { results := [], args := [] }

/-- 'gitlikelaw1.DeflateSums': WHATEVER THE INPUT: true; the input reads as it did. -/
def deflateSumsSpec : ChangeSpec := { name := "deflateSums", fn := fun _ => fun
  | [d] => { results := [.lit (.bool true)], args := [d] }
  | _ => none }
def deflateSumsRow : OpenClaim := { program := "ytknphdcjopaaoaa", sum := "773ed0c709ca0005907ff9c13638af26a58e2d9930fa3355a389909f8876ef57", func := "gitlike/gitlikelaw1.DeflateSums", spec := "deflateSums", apart := false }
def DeflateSumsSaid : Prop := deflateSumsRow.holds Try.pinned (OpenSpec.ofChange deflateSumsSpec)

/-- ITS FALSE NEIGHBOUR: 'it returns false'. Refute it at one input. -/
def deflateSumsWrong : ChangeSpec := { name := "deflateSums", fn := fun _ => fun
  | [d] => { results := [.lit (.bool false)], args := [d] }
  | _ => none }
def DeflateSumsWrongFalsely : Prop := deflateSumsRow.holds Try.pinned (OpenSpec.ofChange deflateSumsWrong)

/-- 'gitlikelaw10.DiffSimilar': WHATEVER THE INPUT: true; the input reads as it did. -/
def diffSimilarSpec : ChangeSpec := { name := "diffSimilar", fn := fun _ => fun
  | [d1, d2] => { results := [.lit (.bool true)], args := [d1, d2] }
  | _ => none }
def diffSimilarRow : OpenClaim := { program := "ytknphdcjopaaoaa", sum := "773ed0c709ca0005907ff9c13638af26a58e2d9930fa3355a389909f8876ef57", func := "gitlike/gitlikelaw10.DiffSimilar", spec := "diffSimilar", inPlace := ["internal/bytealg.IndexByte"], unfollowed := true, recurses := true, apart := false }
def DiffSimilarSaid : Prop := diffSimilarRow.holds Try.pinned (OpenSpec.ofChange diffSimilarSpec)

/-- ITS FALSE NEIGHBOUR: 'it returns false'. Refute it at one input. -/
def diffSimilarWrong : ChangeSpec := { name := "diffSimilar", fn := fun _ => fun
  | [d1, d2] => { results := [.lit (.bool false)], args := [d1, d2] }
  | _ => none }
def DiffSimilarWrongFalsely : Prop := diffSimilarRow.holds Try.pinned (OpenSpec.ofChange diffSimilarWrong)

/-- 'gitlikelaw2.DigestParts': WHATEVER THE INPUT: true; the input reads as it did. -/
def digestPartsSpec : ChangeSpec := { name := "digestParts", fn := fun _ => fun
  | [d] => { results := [.lit (.bool true)], args := [d] }
  | _ => none }
def digestPartsRow : OpenClaim := { program := "ytknphdcjopaaoaa", sum := "773ed0c709ca0005907ff9c13638af26a58e2d9930fa3355a389909f8876ef57", func := "gitlike/gitlikelaw2.DigestParts", spec := "digestParts", unfollowed := true, recurses := true, apart := false }
def DigestPartsSaid : Prop := digestPartsRow.holds Try.pinned (OpenSpec.ofChange digestPartsSpec)

/-- ITS FALSE NEIGHBOUR: 'it returns false'. Refute it at one input. -/
def digestPartsWrong : ChangeSpec := { name := "digestParts", fn := fun _ => fun
  | [d] => { results := [.lit (.bool false)], args := [d] }
  | _ => none }
def DigestPartsWrongFalsely : Prop := digestPartsRow.holds Try.pinned (OpenSpec.ofChange digestPartsWrong)

/-- 'gitlikelaw2.DigestSums': WHATEVER THE INPUT: true; the input reads as it did. -/
def digestSumsSpec : ChangeSpec := { name := "digestSums", fn := fun _ => fun
  | [d] => { results := [.lit (.bool true)], args := [d] }
  | _ => none }
def digestSumsRow : OpenClaim := { program := "ytknphdcjopaaoaa", sum := "773ed0c709ca0005907ff9c13638af26a58e2d9930fa3355a389909f8876ef57", func := "gitlike/gitlikelaw2.DigestSums", spec := "digestSums", unfollowed := true, recurses := true, apart := false }
def DigestSumsSaid : Prop := digestSumsRow.holds Try.pinned (OpenSpec.ofChange digestSumsSpec)

/-- ITS FALSE NEIGHBOUR: 'it returns false'. Refute it at one input. -/
def digestSumsWrong : ChangeSpec := { name := "digestSums", fn := fun _ => fun
  | [d] => { results := [.lit (.bool false)], args := [d] }
  | _ => none }
def DigestSumsWrongFalsely : Prop := digestSumsRow.holds Try.pinned (OpenSpec.ofChange digestSumsWrong)

/-- 'gitlikelaw10.DiffEdits': WHATEVER THE INPUT: true; the input reads as it did. -/
def diffEditsSpec : ChangeSpec := { name := "diffEdits", fn := fun _ => fun
  | [d1, d2] => { results := [.lit (.bool true)], args := [d1, d2] }
  | _ => none }
def diffEditsRow : OpenClaim := { program := "ytknphdcjopaaoaa", sum := "773ed0c709ca0005907ff9c13638af26a58e2d9930fa3355a389909f8876ef57", func := "gitlike/gitlikelaw10.DiffEdits", spec := "diffEdits", inPlace := ["internal/bytealg.IndexByte"], unfollowed := true, recurses := true, apart := false }
def DiffEditsSaid : Prop := diffEditsRow.holds Try.pinned (OpenSpec.ofChange diffEditsSpec)

/-- ITS FALSE NEIGHBOUR: 'it returns false'. Refute it at one input. -/
def diffEditsWrong : ChangeSpec := { name := "diffEdits", fn := fun _ => fun
  | [d1, d2] => { results := [.lit (.bool false)], args := [d1, d2] }
  | _ => none }
def DiffEditsWrongFalsely : Prop := diffEditsRow.holds Try.pinned (OpenSpec.ofChange diffEditsWrong)

/-- 'gitlikelaw11.MergeTexts': WHATEVER THE INPUT: true; the input reads as it did. -/
def mergeTextsSpec : ChangeSpec := { name := "mergeTexts", fn := fun _ => fun
  | [d1, d2, d3, d4, d5] => { results := [.lit (.bool true)], args := [d1, d2, d3, d4, d5] }
  | _ => none }
def mergeTextsRow : OpenClaim := { program := "ytknphdcjopaaoaa", sum := "773ed0c709ca0005907ff9c13638af26a58e2d9930fa3355a389909f8876ef57", func := "gitlike/gitlikelaw11.MergeTexts", spec := "mergeTexts", inPlace := ["internal/bytealg.IndexByte", "internal/abi.NoEscape"], unfollowed := true, recurses := true, apart := false }
def MergeTextsSaid : Prop := mergeTextsRow.holds Try.pinned (OpenSpec.ofChange mergeTextsSpec)

/-- ITS FALSE NEIGHBOUR: 'it returns false'. Refute it at one input. -/
def mergeTextsWrong : ChangeSpec := { name := "mergeTexts", fn := fun _ => fun
  | [d1, d2, d3, d4, d5] => { results := [.lit (.bool false)], args := [d1, d2, d3, d4, d5] }
  | _ => none }
def MergeTextsWrongFalsely : Prop := mergeTextsRow.holds Try.pinned (OpenSpec.ofChange mergeTextsWrong)

/-- 'gitlikelaw11.MergeCommutes': WHATEVER THE INPUT: true; the input reads as it did. -/
def mergeCommutesSpec : ChangeSpec := { name := "mergeCommutes", fn := fun _ => fun
  | [d1, d2, d3] => { results := [.lit (.bool true)], args := [d1, d2, d3] }
  | _ => none }
def mergeCommutesRow : OpenClaim := { program := "ytknphdcjopaaoaa", sum := "773ed0c709ca0005907ff9c13638af26a58e2d9930fa3355a389909f8876ef57", func := "gitlike/gitlikelaw11.MergeCommutes", spec := "mergeCommutes", inPlace := ["internal/bytealg.IndexByte", "internal/abi.NoEscape"], unfollowed := true, recurses := true, apart := false }
def MergeCommutesSaid : Prop := mergeCommutesRow.holds Try.pinned (OpenSpec.ofChange mergeCommutesSpec)

/-- ITS FALSE NEIGHBOUR: 'it returns false'. Refute it at one input. -/
def mergeCommutesWrong : ChangeSpec := { name := "mergeCommutes", fn := fun _ => fun
  | [d1, d2, d3] => { results := [.lit (.bool false)], args := [d1, d2, d3] }
  | _ => none }
def MergeCommutesWrongFalsely : Prop := mergeCommutesRow.holds Try.pinned (OpenSpec.ofChange mergeCommutesWrong)

/- THE SECOND FORM. 'bulk': how many values and letters a reading holds, each counted each time it is reached (what is shared counts as often as it is met; a slice's spare places count too). A statement '..UptoSaid' is the law's where the arguments, and the package variables that the reading takes, are together of bulk at most 1048576: NARROWER than '..Said'. Prove '..Said' where nothing that the law and all that it calls make is longer than what came in: it says more and counts as full. Else prove '..UptoSaid'. A law counts once. -/
mutual
def uptoBulk {H : Type} : DataW H → Nat
  | .lit (.string bytes) => bytes.length + 1
  | .lit _ => 1
  | .nil => 1
  | .ptr d => uptoBulk d + 1
  | .slice elems spare => uptoBulkAll elems + uptoBulkAll spare + 1
  | .agg parts => uptoBulkAll parts + 1
  | .iface _ d => uptoBulk d + 1
  | .map entries => uptoBulkEntries entries + 1
  | .held _ => 1
def uptoBulkAll {H : Type} : List (DataW H) → Nat
  | [] => 0
  | d :: r => uptoBulk d + uptoBulkAll r
def uptoBulkEntries {H : Type} : List (Lit × DataW H) → Nat
  | [] => 0
  | x :: r => uptoBulkEntry x + uptoBulkEntries r
def uptoBulkEntry {H : Type} : Lit × DataW H → Nat
  | (.string bytes, d) => bytes.length + uptoBulk d + 1
  | (_, d) => uptoBulk d + 1
 end
def uptoSmall : (H : Type) → List (DataW H) → Bool := fun _ ds => decide (uptoBulkAll ds ≤ 1048576)
def OpenSpec.upto (s : _root_.Go.ChangeSpec) : _root_.Go.OpenSpec := { _root_.Go.OpenSpec.ofChange s with cond := some uptoSmall }

/-- 'gitlikelaw1.DeflateSums', WHERE WHAT IT READS IS OF BULK AT MOST 1048576: true; the input reads as it did. -/
def deflateSumsUptoRow : OpenClaim := { program := "ytknphdcjopaaoaa", sum := "773ed0c709ca0005907ff9c13638af26a58e2d9930fa3355a389909f8876ef57", func := "gitlike/gitlikelaw1.DeflateSums", spec := "deflateSums", apart := false, narrowed := true }
def DeflateSumsUptoSaid : Prop := deflateSumsUptoRow.holds Try.pinned (OpenSpec.upto deflateSumsSpec)

/-- 'gitlikelaw10.DiffSimilar', WHERE WHAT IT READS IS OF BULK AT MOST 1048576: true; the input reads as it did. -/
def diffSimilarUptoRow : OpenClaim := { program := "ytknphdcjopaaoaa", sum := "773ed0c709ca0005907ff9c13638af26a58e2d9930fa3355a389909f8876ef57", func := "gitlike/gitlikelaw10.DiffSimilar", spec := "diffSimilar", inPlace := ["internal/bytealg.IndexByte"], unfollowed := true, recurses := true, apart := false, narrowed := true }
def DiffSimilarUptoSaid : Prop := diffSimilarUptoRow.holds Try.pinned (OpenSpec.upto diffSimilarSpec)

/-- 'gitlikelaw2.DigestParts', WHERE WHAT IT READS IS OF BULK AT MOST 1048576: true; the input reads as it did. -/
def digestPartsUptoRow : OpenClaim := { program := "ytknphdcjopaaoaa", sum := "773ed0c709ca0005907ff9c13638af26a58e2d9930fa3355a389909f8876ef57", func := "gitlike/gitlikelaw2.DigestParts", spec := "digestParts", unfollowed := true, recurses := true, apart := false, narrowed := true }
def DigestPartsUptoSaid : Prop := digestPartsUptoRow.holds Try.pinned (OpenSpec.upto digestPartsSpec)

/-- 'gitlikelaw2.DigestSums', WHERE WHAT IT READS IS OF BULK AT MOST 1048576: true; the input reads as it did. -/
def digestSumsUptoRow : OpenClaim := { program := "ytknphdcjopaaoaa", sum := "773ed0c709ca0005907ff9c13638af26a58e2d9930fa3355a389909f8876ef57", func := "gitlike/gitlikelaw2.DigestSums", spec := "digestSums", unfollowed := true, recurses := true, apart := false, narrowed := true }
def DigestSumsUptoSaid : Prop := digestSumsUptoRow.holds Try.pinned (OpenSpec.upto digestSumsSpec)

/-- 'gitlikelaw10.DiffEdits', WHERE WHAT IT READS IS OF BULK AT MOST 1048576: true; the input reads as it did. -/
def diffEditsUptoRow : OpenClaim := { program := "ytknphdcjopaaoaa", sum := "773ed0c709ca0005907ff9c13638af26a58e2d9930fa3355a389909f8876ef57", func := "gitlike/gitlikelaw10.DiffEdits", spec := "diffEdits", inPlace := ["internal/bytealg.IndexByte"], unfollowed := true, recurses := true, apart := false, narrowed := true }
def DiffEditsUptoSaid : Prop := diffEditsUptoRow.holds Try.pinned (OpenSpec.upto diffEditsSpec)

/-- 'gitlikelaw11.MergeTexts', WHERE WHAT IT READS IS OF BULK AT MOST 1048576: true; the input reads as it did. -/
def mergeTextsUptoRow : OpenClaim := { program := "ytknphdcjopaaoaa", sum := "773ed0c709ca0005907ff9c13638af26a58e2d9930fa3355a389909f8876ef57", func := "gitlike/gitlikelaw11.MergeTexts", spec := "mergeTexts", inPlace := ["internal/bytealg.IndexByte", "internal/abi.NoEscape"], unfollowed := true, recurses := true, apart := false, narrowed := true }
def MergeTextsUptoSaid : Prop := mergeTextsUptoRow.holds Try.pinned (OpenSpec.upto mergeTextsSpec)

/-- 'gitlikelaw11.MergeCommutes', WHERE WHAT IT READS IS OF BULK AT MOST 1048576: true; the input reads as it did. -/
def mergeCommutesUptoRow : OpenClaim := { program := "ytknphdcjopaaoaa", sum := "773ed0c709ca0005907ff9c13638af26a58e2d9930fa3355a389909f8876ef57", func := "gitlike/gitlikelaw11.MergeCommutes", spec := "mergeCommutes", inPlace := ["internal/bytealg.IndexByte", "internal/abi.NoEscape"], unfollowed := true, recurses := true, apart := false, narrowed := true }
def MergeCommutesUptoSaid : Prop := mergeCommutesUptoRow.holds Try.pinned (OpenSpec.upto mergeCommutesSpec)

end Rows
end Go.Proofs.Ytknphdcjopaaoaa
