/-
  DERIVED. GIVEN WITH THE SEED: THE CARDS: each row of YtnikbdnebdmmiaaGreatDoorRows.lean that lists a variable, with what it lists TIED to the program's text (the seventh form; the later family's looks); each row that meets fmt, with fmt's text TOLD by the authors' own Lean function (tested against real Go, not proved from fmt's source: count such statements apart). THE CARD IS WHAT COUNTS. Prove the row's statement (the work); the ties are given (YtnikbdnebdmmiaaGreatDoorTie.lean); close each card by the builder's one call (the guide's Derived/Test/ToyasCard.lean, 'card_holds'). Laid BY PROGRAM, IN A SANDBOX (cutbox-door.mjs). By AI agents, Wed Nov 11 2026. No macro, syntax, notation, axiom, sorry.
-/
import Derived.Test.YtnikbdnebdmmiaaGreatDoorRows
import GoSem.ClaimSeven
namespace Go.Proofs.YtnikbdnebdmmiaaGreatDoor
namespace Rows

/-- THE TIED CARD OF 'gitlikelaw12.WireWants'. -/
def wireWantsCard : Claim7 := { stood := { row := wireWantsRow, standIns := [], harness := (true, "1cd508813a7ab9180b6b047ca0db803201969f14fae151725a7c55c995d18096"), looks := true }, kinds := [], alts := [], laidByText := true, laidKinds := [.data, .data, .data, .data, .handle, .sentinel, .sentinel, .pinned], laidTests := true, laidLooks := .later }
def WireWantsCardSaid : Prop := Claim7.holds Tryz.pinned (.plain (OpenSpec.ofChange wireWantsSpec)) wireWantsCard

/-- THE TIED CARD OF 'gitlikelaw12.WireOffers'. -/
def wireOffersCard : Claim7 := { stood := { row := wireOffersRow, standIns := [], harness := (true, "1cd508813a7ab9180b6b047ca0db803201969f14fae151725a7c55c995d18096"), looks := true }, kinds := [], alts := [], laidByText := true, laidKinds := [.data, .data, .data, .data, .handle, .sentinel, .sentinel, .pinned], laidTests := true, laidLooks := .later }
def WireOffersCardSaid : Prop := Claim7.holds Tryz.pinned (.plain (OpenSpec.ofChange wireOffersSpec)) wireOffersCard

/-- THE TIED CARD OF 'gitlikelaw12.WirePushes'. -/
def wirePushesCard : Claim7 := { stood := { row := wirePushesRow, standIns := [], harness := (true, "1cd508813a7ab9180b6b047ca0db803201969f14fae151725a7c55c995d18096"), looks := true }, kinds := [], alts := [], laidByText := true, laidKinds := [.data, .data, .data, .data, .handle, .sentinel, .sentinel, .pinned], laidTests := true, laidLooks := .later }
def WirePushesCardSaid : Prop := Claim7.holds Tryz.pinned (.plain (OpenSpec.ofChange wirePushesSpec)) wirePushesCard

/-- THE TIED CARD OF 'gitlikelaw12.WireStatuses'. -/
def wireStatusesCard : Claim7 := { stood := { row := wireStatusesRow, standIns := [], harness := (true, "1cd508813a7ab9180b6b047ca0db803201969f14fae151725a7c55c995d18096"), looks := true }, kinds := [], alts := [], laidByText := true, laidKinds := [.data, .data, .data, .data, .handle, .sentinel, .sentinel, .pinned], laidTests := true, laidLooks := .later }
def WireStatusesCardSaid : Prop := Claim7.holds Tryz.pinned (.plain (OpenSpec.ofChange wireStatusesSpec)) wireStatusesCard

/-- THE SECOND FORM's CARD OF 'gitlikelaw12.WireWants'. -/
def wireWantsUptoCard : Claim7 := { stood := { row := wireWantsUptoRow, standIns := [], harness := (true, "1cd508813a7ab9180b6b047ca0db803201969f14fae151725a7c55c995d18096"), looks := true }, kinds := [], alts := [], laidByText := true, laidKinds := [.data, .data, .data, .data, .handle, .sentinel, .sentinel, .pinned], laidTests := true, laidLooks := .later }
def WireWantsUptoCardSaid : Prop := Claim7.holds Tryz.pinned (.plain (OpenSpec.upto wireWantsSpec)) wireWantsUptoCard

/-- THE SECOND FORM's CARD OF 'gitlikelaw12.WireOffers'. -/
def wireOffersUptoCard : Claim7 := { stood := { row := wireOffersUptoRow, standIns := [], harness := (true, "1cd508813a7ab9180b6b047ca0db803201969f14fae151725a7c55c995d18096"), looks := true }, kinds := [], alts := [], laidByText := true, laidKinds := [.data, .data, .data, .data, .handle, .sentinel, .sentinel, .pinned], laidTests := true, laidLooks := .later }
def WireOffersUptoCardSaid : Prop := Claim7.holds Tryz.pinned (.plain (OpenSpec.upto wireOffersSpec)) wireOffersUptoCard

/-- THE SECOND FORM's CARD OF 'gitlikelaw12.WirePushes'. -/
def wirePushesUptoCard : Claim7 := { stood := { row := wirePushesUptoRow, standIns := [], harness := (true, "1cd508813a7ab9180b6b047ca0db803201969f14fae151725a7c55c995d18096"), looks := true }, kinds := [], alts := [], laidByText := true, laidKinds := [.data, .data, .data, .data, .handle, .sentinel, .sentinel, .pinned], laidTests := true, laidLooks := .later }
def WirePushesUptoCardSaid : Prop := Claim7.holds Tryz.pinned (.plain (OpenSpec.upto wirePushesSpec)) wirePushesUptoCard

/-- THE SECOND FORM's CARD OF 'gitlikelaw12.WireStatuses'. -/
def wireStatusesUptoCard : Claim7 := { stood := { row := wireStatusesUptoRow, standIns := [], harness := (true, "1cd508813a7ab9180b6b047ca0db803201969f14fae151725a7c55c995d18096"), looks := true }, kinds := [], alts := [], laidByText := true, laidKinds := [.data, .data, .data, .data, .handle, .sentinel, .sentinel, .pinned], laidTests := true, laidLooks := .later }
def WireStatusesUptoCardSaid : Prop := Claim7.holds Tryz.pinned (.plain (OpenSpec.upto wireStatusesSpec)) wireStatusesUptoCard
end Rows
end Go.Proofs.YtnikbdnebdmmiaaGreatDoor
