/-
  DERIVED. GIVEN WITH THE SEED: THE CARDS: each row of YtnkpoloeifhflaaDoorRows.lean that lists a variable, with what it lists TIED to the program's text (the seventh form; the later family's looks); each row that meets fmt, with fmt's text TOLD by the authors' own Lean function (tested against real Go, not proved from fmt's source: count such statements apart). THE CARD IS WHAT COUNTS. Prove the row's statement (the work); the ties are given (YtnkpoloeifhflaaDoorTie.lean); close each card by the builder's one call (the guide's Derived/Test/ToyasCard.lean, 'card_holds'). Laid BY PROGRAM, IN A SANDBOX (cutbox-door.mjs). By AI agents, Wed Nov 11 2026. No macro, syntax, notation, axiom, sorry.
-/
import Derived.Test.YtnkpoloeifhflaaDoorRows
import GoSem.ClaimSeven
namespace Go.Proofs.YtnkpoloeifhflaaDoor
namespace Rows

/-- THE TIED CARD OF 'gitlikelaw8.StageWrites'. -/
def stageWritesCard : Claim7 := { stood := { row := stageWritesRow, standIns := [], harness := (true, "9ca9328afd9177ce1d3e3cf1303f7a73306fa8e93534dc96fdf63e517efb4c77"), looks := true }, kinds := [], alts := [], laidByText := true, laidKinds := [.data, .handle, .pinned], laidTests := true, laidLooks := .later }
def StageWritesCardSaid : Prop := Claim7.holds Tryd.pinned (.plain (OpenSpec.ofChange stageWritesSpec)) stageWritesCard

/-- THE SECOND FORM's CARD OF 'gitlikelaw8.StageWrites'. -/
def stageWritesUptoCard : Claim7 := { stood := { row := stageWritesUptoRow, standIns := [], harness := (true, "9ca9328afd9177ce1d3e3cf1303f7a73306fa8e93534dc96fdf63e517efb4c77"), looks := true }, kinds := [], alts := [], laidByText := true, laidKinds := [.data, .handle, .pinned], laidTests := true, laidLooks := .later }
def StageWritesUptoCardSaid : Prop := Claim7.holds Tryd.pinned (.plain (OpenSpec.upto stageWritesSpec)) stageWritesUptoCard
end Rows
end Go.Proofs.YtnkpoloeifhflaaDoor
