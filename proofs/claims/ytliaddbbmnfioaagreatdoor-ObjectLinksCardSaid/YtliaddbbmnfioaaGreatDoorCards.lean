/-
  DERIVED. GIVEN WITH THE SEED: THE CARDS: each row of YtliaddbbmnfioaaGreatDoorRows.lean that lists a variable, with what it lists TIED to the program's text (the seventh form; the later family's looks); each row that meets fmt, with fmt's text TOLD by the authors' own Lean function (tested against real Go, not proved from fmt's source: count such statements apart). THE CARD IS WHAT COUNTS. Prove the row's statement (the work); the ties are given (YtliaddbbmnfioaaGreatDoorTie.lean); close each card by the builder's one call (the guide's Derived/Test/ToyasCard.lean, 'card_holds'). Laid BY PROGRAM, IN A SANDBOX (cutbox-door.mjs). By AI agents, Wed Nov 11 2026. No macro, syntax, notation, axiom, sorry.
-/
import Derived.Test.YtliaddbbmnfioaaGreatDoorRows
import GoSem.ClaimSeven
namespace Go.Proofs.YtliaddbbmnfioaaGreatDoor
namespace Rows

/-- THE TIED CARD OF 'gitlikelaw3.ObjectTags'. -/
def objectTagsCard : Claim7 := { stood := { row := objectTagsRow, standIns := [], harness := (true, "e6ab31fe43430383ffa178a85459ae3fe14ad8d0c4adf46aafb056f087e0bfb5"), looks := true }, kinds := [], alts := [], laidByText := true, laidKinds := [.data, .data, .data, .data, .handle, .sentinel, .sentinel, .data, .pinned], laidTests := true, laidLooks := .later }
def ObjectTagsCardSaid : Prop := Claim7.holds Tryz.pinned (.plain (OpenSpec.ofChange objectTagsSpec)) objectTagsCard

/-- THE TIED CARD OF 'gitlikelaw3.ObjectCommits'. -/
def objectCommitsCard : Claim7 := { stood := { row := objectCommitsRow, standIns := [], harness := (true, "e6ab31fe43430383ffa178a85459ae3fe14ad8d0c4adf46aafb056f087e0bfb5"), looks := true }, kinds := [], alts := [], laidByText := true, laidKinds := [.data, .data, .data, .data, .handle, .sentinel, .sentinel, .pinned], laidTests := true, laidLooks := .later }
def ObjectCommitsCardSaid : Prop := Claim7.holds Tryz.pinned (.plain (OpenSpec.ofChange objectCommitsSpec)) objectCommitsCard

/-- THE TIED CARD OF 'gitlikelaw3.ObjectTrees'. -/
def objectTreesCard : Claim7 := { stood := { row := objectTreesRow, standIns := [], harness := (true, "e6ab31fe43430383ffa178a85459ae3fe14ad8d0c4adf46aafb056f087e0bfb5"), looks := true }, kinds := [], alts := [], laidByText := true, laidKinds := [.data, .data, .data, .handle, .sentinel, .sentinel], laidTests := true, laidLooks := .later }
def ObjectTreesCardSaid : Prop := Claim7.holds Tryz.pinned (.plain (OpenSpec.ofChange objectTreesSpec)) objectTreesCard

/-- THE TIED CARD OF 'gitlikelaw3.ObjectLinks'. -/
def objectLinksCard : Claim7 := { stood := { row := objectLinksRow, standIns := [], harness := (true, "e6ab31fe43430383ffa178a85459ae3fe14ad8d0c4adf46aafb056f087e0bfb5"), looks := true }, kinds := [], alts := [], laidByText := true, laidKinds := [.data, .data, .data, .data, .handle, .sentinel, .sentinel, .data, .pinned], laidTests := true, laidLooks := .later }
def ObjectLinksCardSaid : Prop := Claim7.holds Tryz.pinned (.plain (OpenSpec.ofChange objectLinksSpec)) objectLinksCard

/-- THE SECOND FORM's CARD OF 'gitlikelaw3.ObjectTags'. -/
def objectTagsUptoCard : Claim7 := { stood := { row := objectTagsUptoRow, standIns := [], harness := (true, "e6ab31fe43430383ffa178a85459ae3fe14ad8d0c4adf46aafb056f087e0bfb5"), looks := true }, kinds := [], alts := [], laidByText := true, laidKinds := [.data, .data, .data, .data, .handle, .sentinel, .sentinel, .data, .pinned], laidTests := true, laidLooks := .later }
def ObjectTagsUptoCardSaid : Prop := Claim7.holds Tryz.pinned (.plain (OpenSpec.upto objectTagsSpec)) objectTagsUptoCard

/-- THE SECOND FORM's CARD OF 'gitlikelaw3.ObjectCommits'. -/
def objectCommitsUptoCard : Claim7 := { stood := { row := objectCommitsUptoRow, standIns := [], harness := (true, "e6ab31fe43430383ffa178a85459ae3fe14ad8d0c4adf46aafb056f087e0bfb5"), looks := true }, kinds := [], alts := [], laidByText := true, laidKinds := [.data, .data, .data, .data, .handle, .sentinel, .sentinel, .pinned], laidTests := true, laidLooks := .later }
def ObjectCommitsUptoCardSaid : Prop := Claim7.holds Tryz.pinned (.plain (OpenSpec.upto objectCommitsSpec)) objectCommitsUptoCard

/-- THE SECOND FORM's CARD OF 'gitlikelaw3.ObjectTrees'. -/
def objectTreesUptoCard : Claim7 := { stood := { row := objectTreesUptoRow, standIns := [], harness := (true, "e6ab31fe43430383ffa178a85459ae3fe14ad8d0c4adf46aafb056f087e0bfb5"), looks := true }, kinds := [], alts := [], laidByText := true, laidKinds := [.data, .data, .data, .handle, .sentinel, .sentinel], laidTests := true, laidLooks := .later }
def ObjectTreesUptoCardSaid : Prop := Claim7.holds Tryz.pinned (.plain (OpenSpec.upto objectTreesSpec)) objectTreesUptoCard

/-- THE SECOND FORM's CARD OF 'gitlikelaw3.ObjectLinks'. -/
def objectLinksUptoCard : Claim7 := { stood := { row := objectLinksUptoRow, standIns := [], harness := (true, "e6ab31fe43430383ffa178a85459ae3fe14ad8d0c4adf46aafb056f087e0bfb5"), looks := true }, kinds := [], alts := [], laidByText := true, laidKinds := [.data, .data, .data, .data, .handle, .sentinel, .sentinel, .data, .pinned], laidTests := true, laidLooks := .later }
def ObjectLinksUptoCardSaid : Prop := Claim7.holds Tryz.pinned (.plain (OpenSpec.upto objectLinksSpec)) objectLinksUptoCard
end Rows
end Go.Proofs.YtliaddbbmnfioaaGreatDoor
