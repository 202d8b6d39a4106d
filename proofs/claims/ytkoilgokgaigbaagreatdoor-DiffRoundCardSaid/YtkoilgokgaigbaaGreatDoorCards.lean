/-
  DERIVED. GIVEN WITH THE SEED: THE CARDS: each row of YtkoilgokgaigbaaGreatDoorRows.lean that lists a variable, with what it lists TIED to the program's text (the seventh form; the later family's looks); each row that meets fmt, with fmt's text TOLD by the authors' own Lean function (tested against real Go, not proved from fmt's source: count such statements apart). THE CARD IS WHAT COUNTS. Prove the row's statement (the work); the ties are given (YtkoilgokgaigbaaGreatDoorTie.lean); close each card by the builder's one call (the guide's Derived/Test/ToyasCard.lean, 'card_holds'). Laid BY PROGRAM, IN A SANDBOX (cutbox-door.mjs). By AI agents, Wed Nov 11 2026. No macro, syntax, notation, axiom, sorry.
-/
import Derived.Test.YtkoilgokgaigbaaGreatDoorRows
import GoSem.ClaimSeven
namespace Go.Proofs.YtkoilgokgaigbaaGreatDoor
namespace Rows

/-- THE TIED CARD OF 'gitlikelaw10.DiffApplies'. -/
def diffAppliesCard : Claim7 := { stood := { row := diffAppliesRow, standIns := [], harness := (true, "62a5829ec729229048cd84d384c4567494042dda76116d78a6e039e1f1c832a8"), looks := true }, kinds := [], alts := [], laidByText := true, laidKinds := [.data, .data, .data, .data, .handle, .sentinel, .sentinel, .widerDeep, .pinned], laidTests := true, laidLooks := .later }
def DiffAppliesCardSaid : Prop := Claim7.holds Tryz.pinned (.plain (OpenSpec.ofChange diffAppliesSpec)) diffAppliesCard

/-- THE TIED CARD OF 'gitlikelaw10.DiffRound'. -/
def diffRoundCard : Claim7 := { stood := { row := diffRoundRow, standIns := [], harness := (true, "62a5829ec729229048cd84d384c4567494042dda76116d78a6e039e1f1c832a8"), looks := true }, kinds := [], alts := [], laidByText := true, laidKinds := [.data, .data, .data, .data, .handle, .sentinel, .sentinel, .widerDeep, .pinned], laidTests := true, laidLooks := .later }
def DiffRoundCardSaid : Prop := Claim7.holds Tryz.pinned (.plain (OpenSpec.ofChange diffRoundSpec)) diffRoundCard

/-- THE SECOND FORM's CARD OF 'gitlikelaw10.DiffApplies'. -/
def diffAppliesUptoCard : Claim7 := { stood := { row := diffAppliesUptoRow, standIns := [], harness := (true, "62a5829ec729229048cd84d384c4567494042dda76116d78a6e039e1f1c832a8"), looks := true }, kinds := [], alts := [], laidByText := true, laidKinds := [.data, .data, .data, .data, .handle, .sentinel, .sentinel, .widerDeep, .pinned], laidTests := true, laidLooks := .later }
def DiffAppliesUptoCardSaid : Prop := Claim7.holds Tryz.pinned (.plain (OpenSpec.upto diffAppliesSpec)) diffAppliesUptoCard

/-- THE SECOND FORM's CARD OF 'gitlikelaw10.DiffRound'. -/
def diffRoundUptoCard : Claim7 := { stood := { row := diffRoundUptoRow, standIns := [], harness := (true, "62a5829ec729229048cd84d384c4567494042dda76116d78a6e039e1f1c832a8"), looks := true }, kinds := [], alts := [], laidByText := true, laidKinds := [.data, .data, .data, .data, .handle, .sentinel, .sentinel, .widerDeep, .pinned], laidTests := true, laidLooks := .later }
def DiffRoundUptoCardSaid : Prop := Claim7.holds Tryz.pinned (.plain (OpenSpec.upto diffRoundSpec)) diffRoundUptoCard
end Rows
end Go.Proofs.YtkoilgokgaigbaaGreatDoor
