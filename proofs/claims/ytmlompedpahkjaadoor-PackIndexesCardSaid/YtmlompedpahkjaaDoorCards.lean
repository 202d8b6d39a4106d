/-
  DERIVED. GIVEN WITH THE SEED: THE CARDS: each row of YtmlompedpahkjaaDoorRows.lean that lists a variable, with what it lists TIED to the program's text (the seventh form; the later family's looks); each row that meets fmt, with fmt's text TOLD by the authors' own Lean function (tested against real Go, not proved from fmt's source: count such statements apart). THE CARD IS WHAT COUNTS. Prove the row's statement (the work); the ties are given (YtmlompedpahkjaaDoorTie.lean); close each card by the builder's one call (the guide's Derived/Test/ToyasCard.lean, 'card_holds'). Laid BY PROGRAM, IN A SANDBOX (cutbox-door.mjs). By AI agents, Wed Nov 11 2026. No macro, syntax, notation, axiom, sorry.
-/
import Derived.Test.YtmlompedpahkjaaDoorRows
import GoSem.ClaimSeven
namespace Go.Proofs.YtmlompedpahkjaaDoor
namespace Rows

/-- THE TIED CARD OF 'gitlikelaw12.WireLines'. -/
def wireLinesCard : Claim7 := { stood := { row := wireLinesRow, standIns := [], harness := (true, "441e77b89fd3d084e199b1e4e12267242f916a82052141bf8d8d61eeccfbb5c5"), looks := true }, kinds := [], alts := [], laidByText := true, laidKinds := [.data, .data, .data, .handle, .sentinel, .sentinel], laidTests := true, laidLooks := .later }
def WireLinesCardSaid : Prop := Claim7.holds Tryd.pinned (.plain (OpenSpec.ofChange wireLinesSpec)) wireLinesCard

/-- THE TIED CARD OF 'gitlikelaw5.PackIndexes'. -/
def packIndexesCard : Claim7 := { stood := { row := packIndexesRow, standIns := [], harness := (true, "441e77b89fd3d084e199b1e4e12267242f916a82052141bf8d8d61eeccfbb5c5"), looks := true }, kinds := [], alts := [], laidByText := true, laidKinds := [.handle], laidTests := true, laidLooks := .later }
def PackIndexesCardSaid : Prop := Claim7.holds Tryd.pinned (.plain (OpenSpec.ofChange packIndexesSpec)) packIndexesCard

/-- THE TIED CARD OF 'gitlikelaw4.DeltaMoved'. -/
def deltaMovedCard : Claim7 := { stood := { row := deltaMovedRow, standIns := [], harness := (true, "441e77b89fd3d084e199b1e4e12267242f916a82052141bf8d8d61eeccfbb5c5"), looks := true }, kinds := [], alts := [], laidByText := true, laidKinds := [.handle], laidTests := true, laidLooks := .later }
def DeltaMovedCardSaid : Prop := Claim7.holds Tryd.pinned (.plain (OpenSpec.ofChange deltaMovedSpec)) deltaMovedCard

/-- THE TIED CARD OF 'gitlikelaw4.DeltaRound'. -/
def deltaRoundCard : Claim7 := { stood := { row := deltaRoundRow, standIns := [], harness := (true, "441e77b89fd3d084e199b1e4e12267242f916a82052141bf8d8d61eeccfbb5c5"), looks := true }, kinds := [], alts := [], laidByText := true, laidKinds := [.handle], laidTests := true, laidLooks := .later }
def DeltaRoundCardSaid : Prop := Claim7.holds Tryd.pinned (.plain (OpenSpec.ofChange deltaRoundSpec)) deltaRoundCard

/-- THE TIED CARD OF 'gitlikelaw8.StageWrites'. -/
def stageWritesCard : Claim7 := { stood := { row := stageWritesRow, standIns := [], harness := (true, "441e77b89fd3d084e199b1e4e12267242f916a82052141bf8d8d61eeccfbb5c5"), looks := true }, kinds := [], alts := [], laidByText := true, laidKinds := [.data, .handle, .pinned], laidTests := true, laidLooks := .later }
def StageWritesCardSaid : Prop := Claim7.holds Tryd.pinned (.plain (OpenSpec.ofChange stageWritesSpec)) stageWritesCard

/-- THE SECOND FORM's CARD OF 'gitlikelaw12.WireLines'. -/
def wireLinesUptoCard : Claim7 := { stood := { row := wireLinesUptoRow, standIns := [], harness := (true, "441e77b89fd3d084e199b1e4e12267242f916a82052141bf8d8d61eeccfbb5c5"), looks := true }, kinds := [], alts := [], laidByText := true, laidKinds := [.data, .data, .data, .handle, .sentinel, .sentinel], laidTests := true, laidLooks := .later }
def WireLinesUptoCardSaid : Prop := Claim7.holds Tryd.pinned (.plain (OpenSpec.upto wireLinesSpec)) wireLinesUptoCard

/-- THE SECOND FORM's CARD OF 'gitlikelaw5.PackIndexes'. -/
def packIndexesUptoCard : Claim7 := { stood := { row := packIndexesUptoRow, standIns := [], harness := (true, "441e77b89fd3d084e199b1e4e12267242f916a82052141bf8d8d61eeccfbb5c5"), looks := true }, kinds := [], alts := [], laidByText := true, laidKinds := [.handle], laidTests := true, laidLooks := .later }
def PackIndexesUptoCardSaid : Prop := Claim7.holds Tryd.pinned (.plain (OpenSpec.upto packIndexesSpec)) packIndexesUptoCard

/-- THE SECOND FORM's CARD OF 'gitlikelaw4.DeltaMoved'. -/
def deltaMovedUptoCard : Claim7 := { stood := { row := deltaMovedUptoRow, standIns := [], harness := (true, "441e77b89fd3d084e199b1e4e12267242f916a82052141bf8d8d61eeccfbb5c5"), looks := true }, kinds := [], alts := [], laidByText := true, laidKinds := [.handle], laidTests := true, laidLooks := .later }
def DeltaMovedUptoCardSaid : Prop := Claim7.holds Tryd.pinned (.plain (OpenSpec.upto deltaMovedSpec)) deltaMovedUptoCard

/-- THE SECOND FORM's CARD OF 'gitlikelaw4.DeltaRound'. -/
def deltaRoundUptoCard : Claim7 := { stood := { row := deltaRoundUptoRow, standIns := [], harness := (true, "441e77b89fd3d084e199b1e4e12267242f916a82052141bf8d8d61eeccfbb5c5"), looks := true }, kinds := [], alts := [], laidByText := true, laidKinds := [.handle], laidTests := true, laidLooks := .later }
def DeltaRoundUptoCardSaid : Prop := Claim7.holds Tryd.pinned (.plain (OpenSpec.upto deltaRoundSpec)) deltaRoundUptoCard

/-- THE SECOND FORM's CARD OF 'gitlikelaw8.StageWrites'. -/
def stageWritesUptoCard : Claim7 := { stood := { row := stageWritesUptoRow, standIns := [], harness := (true, "441e77b89fd3d084e199b1e4e12267242f916a82052141bf8d8d61eeccfbb5c5"), looks := true }, kinds := [], alts := [], laidByText := true, laidKinds := [.data, .handle, .pinned], laidTests := true, laidLooks := .later }
def StageWritesUptoCardSaid : Prop := Claim7.holds Tryd.pinned (.plain (OpenSpec.upto stageWritesSpec)) stageWritesUptoCard
end Rows
end Go.Proofs.YtmlompedpahkjaaDoor
