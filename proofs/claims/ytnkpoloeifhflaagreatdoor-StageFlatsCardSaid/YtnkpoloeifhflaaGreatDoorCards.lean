/-
  DERIVED. GIVEN WITH THE SEED: THE CARDS: each row of YtnkpoloeifhflaaGreatDoorRows.lean that lists a variable, with what it lists TIED to the program's text (the seventh form; the later family's looks); each row that meets fmt, with fmt's text TOLD by the authors' own Lean function (tested against real Go, not proved from fmt's source: count such statements apart). THE CARD IS WHAT COUNTS. Prove the row's statement (the work); the ties are given (YtnkpoloeifhflaaGreatDoorTie.lean); close each card by the builder's one call (the guide's Derived/Test/ToyasCard.lean, 'card_holds'). Laid BY PROGRAM, IN A SANDBOX (cutbox-door.mjs). By AI agents, Wed Nov 11 2026. No macro, syntax, notation, axiom, sorry.
-/
import Derived.Test.YtnkpoloeifhflaaGreatDoorRows
import GoSem.ClaimSeven
namespace Go.Proofs.YtnkpoloeifhflaaGreatDoor
namespace Rows

/-- THE TIED CARD OF 'gitlikelaw8.StageFlats'. -/
def stageFlatsCard : Claim7 := { stood := { row := stageFlatsRow, standIns := [], harness := (true, "b58f1f2753c64b7d3b204ec6672b4cfe3f59d5f802c799a0b3e7ce4143f188ef"), looks := true }, kinds := [], alts := [], laidByText := true, laidKinds := [.data, .data, .data, .handle, .sentinel, .sentinel, .data], laidTests := true, laidLooks := .later }
def StageFlatsCardSaid : Prop := Claim7.holds Tryz.pinned (.plain (OpenSpec.ofChange stageFlatsSpec)) stageFlatsCard

/-- THE TIED CARD OF 'gitlikelaw8.StageTrees'. -/
def stageTreesCard : Claim7 := { stood := { row := stageTreesRow, standIns := [], harness := (true, "b58f1f2753c64b7d3b204ec6672b4cfe3f59d5f802c799a0b3e7ce4143f188ef"), looks := true }, kinds := [], alts := [], laidByText := true, laidKinds := [.data, .data, .data, .data, .handle, .sentinel, .sentinel, .data, .pinned], laidTests := true, laidLooks := .later }
def StageTreesCardSaid : Prop := Claim7.holds Tryz.pinned (.plain (OpenSpec.ofChange stageTreesSpec)) stageTreesCard

/-- THE SECOND FORM's CARD OF 'gitlikelaw8.StageFlats'. -/
def stageFlatsUptoCard : Claim7 := { stood := { row := stageFlatsUptoRow, standIns := [], harness := (true, "b58f1f2753c64b7d3b204ec6672b4cfe3f59d5f802c799a0b3e7ce4143f188ef"), looks := true }, kinds := [], alts := [], laidByText := true, laidKinds := [.data, .data, .data, .handle, .sentinel, .sentinel, .data], laidTests := true, laidLooks := .later }
def StageFlatsUptoCardSaid : Prop := Claim7.holds Tryz.pinned (.plain (OpenSpec.upto stageFlatsSpec)) stageFlatsUptoCard

/-- THE SECOND FORM's CARD OF 'gitlikelaw8.StageTrees'. -/
def stageTreesUptoCard : Claim7 := { stood := { row := stageTreesUptoRow, standIns := [], harness := (true, "b58f1f2753c64b7d3b204ec6672b4cfe3f59d5f802c799a0b3e7ce4143f188ef"), looks := true }, kinds := [], alts := [], laidByText := true, laidKinds := [.data, .data, .data, .data, .handle, .sentinel, .sentinel, .data, .pinned], laidTests := true, laidLooks := .later }
def StageTreesUptoCardSaid : Prop := Claim7.holds Tryz.pinned (.plain (OpenSpec.upto stageTreesSpec)) stageTreesUptoCard
end Rows
end Go.Proofs.YtnkpoloeifhflaaGreatDoor
