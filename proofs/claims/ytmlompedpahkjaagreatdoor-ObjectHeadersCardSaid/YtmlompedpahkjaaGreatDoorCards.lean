/-
  DERIVED. GIVEN WITH THE SEED: THE CARDS: each row of YtmlompedpahkjaaGreatDoorRows.lean that lists a variable, with what it lists TIED to the program's text (the seventh form; the later family's looks); each row that meets fmt, with fmt's text TOLD by the authors' own Lean function (tested against real Go, not proved from fmt's source: count such statements apart). THE CARD IS WHAT COUNTS. Prove the row's statement (the work); the ties are given (YtmlompedpahkjaaGreatDoorTie.lean); close each card by the builder's one call (the guide's Derived/Test/ToyasCard.lean, 'card_holds'). Laid BY PROGRAM, IN A SANDBOX (cutbox-door.mjs). By AI agents, Wed Nov 11 2026. No macro, syntax, notation, axiom, sorry.
-/
import Derived.Test.YtmlompedpahkjaaGreatDoorRows
import GoSem.ClaimSeven
namespace Go.Proofs.YtmlompedpahkjaaGreatDoor
namespace Rows

/-- THE TIED CARD OF 'gitlikelaw3.ObjectHeaders'. -/
def objectHeadersCard : Claim7 := { stood := { row := objectHeadersRow, standIns := [], harness := (true, "5fac5d57d25cddb8727c9ca4140933469e94e2b9e30e8bbb4db76498e2def510"), looks := true }, kinds := [], alts := [], laidByText := true, laidKinds := [.data, .data, .data, .handle, .sentinel, .sentinel, .data], laidTests := true, laidLooks := .later }
def ObjectHeadersCardSaid : Prop := Claim7.holds Tryz.pinned (.plain (OpenSpec.ofChange objectHeadersSpec)) objectHeadersCard

/-- THE SECOND FORM's CARD OF 'gitlikelaw3.ObjectHeaders'. -/
def objectHeadersUptoCard : Claim7 := { stood := { row := objectHeadersUptoRow, standIns := [], harness := (true, "5fac5d57d25cddb8727c9ca4140933469e94e2b9e30e8bbb4db76498e2def510"), looks := true }, kinds := [], alts := [], laidByText := true, laidKinds := [.data, .data, .data, .handle, .sentinel, .sentinel, .data], laidTests := true, laidLooks := .later }
def ObjectHeadersUptoCardSaid : Prop := Claim7.holds Tryz.pinned (.plain (OpenSpec.upto objectHeadersSpec)) objectHeadersUptoCard
end Rows
end Go.Proofs.YtmlompedpahkjaaGreatDoor
