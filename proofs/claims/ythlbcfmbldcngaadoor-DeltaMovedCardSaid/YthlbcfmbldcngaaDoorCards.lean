/-
  DERIVED. GIVEN WITH THE SEED: THE CARDS: each row of YthlbcfmbldcngaaDoorRows.lean that lists a variable, with what it lists TIED to the program's text (the seventh form; the later family's looks); each row that meets fmt, with fmt's text TOLD by the authors' own Lean function (tested against real Go, not proved from fmt's source: count such statements apart). THE CARD IS WHAT COUNTS. Prove the row's statement (the work); the ties are given (YthlbcfmbldcngaaDoorTie.lean); close each card by the builder's one call (the guide's Derived/Test/ToyasCard.lean, 'card_holds'). Laid BY PROGRAM, IN A SANDBOX (cutbox-door.mjs). By AI agents, Wed Nov 11 2026. No macro, syntax, notation, axiom, sorry.
-/
import Derived.Test.YthlbcfmbldcngaaDoorRows
import GoSem.ClaimSeven
namespace Go.Proofs.YthlbcfmbldcngaaDoor
namespace Rows

/-- THE TIED CARD OF 'gitlikelaw4.DeltaRound'. -/
def deltaRoundCard : Claim7 := { stood := { row := deltaRoundRow, standIns := [], harness := (true, "eecdc4a8cf6d1dfc2f55d86962e4beb66123a5d0896791f5664aff0c45d75a48"), looks := true }, kinds := [], alts := [], laidByText := true, laidKinds := [.handle], laidTests := true, laidLooks := .later }
def DeltaRoundCardSaid : Prop := Claim7.holds Tryd.pinned (.plain (OpenSpec.ofChange deltaRoundSpec)) deltaRoundCard

/-- THE TIED CARD OF 'gitlikelaw4.DeltaMoved'. -/
def deltaMovedCard : Claim7 := { stood := { row := deltaMovedRow, standIns := [], harness := (true, "eecdc4a8cf6d1dfc2f55d86962e4beb66123a5d0896791f5664aff0c45d75a48"), looks := true }, kinds := [], alts := [], laidByText := true, laidKinds := [.handle], laidTests := true, laidLooks := .later }
def DeltaMovedCardSaid : Prop := Claim7.holds Tryd.pinned (.plain (OpenSpec.ofChange deltaMovedSpec)) deltaMovedCard

/-- THE SECOND FORM's CARD OF 'gitlikelaw4.DeltaRound'. -/
def deltaRoundUptoCard : Claim7 := { stood := { row := deltaRoundUptoRow, standIns := [], harness := (true, "eecdc4a8cf6d1dfc2f55d86962e4beb66123a5d0896791f5664aff0c45d75a48"), looks := true }, kinds := [], alts := [], laidByText := true, laidKinds := [.handle], laidTests := true, laidLooks := .later }
def DeltaRoundUptoCardSaid : Prop := Claim7.holds Tryd.pinned (.plain (OpenSpec.upto deltaRoundSpec)) deltaRoundUptoCard

/-- THE SECOND FORM's CARD OF 'gitlikelaw4.DeltaMoved'. -/
def deltaMovedUptoCard : Claim7 := { stood := { row := deltaMovedUptoRow, standIns := [], harness := (true, "eecdc4a8cf6d1dfc2f55d86962e4beb66123a5d0896791f5664aff0c45d75a48"), looks := true }, kinds := [], alts := [], laidByText := true, laidKinds := [.handle], laidTests := true, laidLooks := .later }
def DeltaMovedUptoCardSaid : Prop := Claim7.holds Tryd.pinned (.plain (OpenSpec.upto deltaMovedSpec)) deltaMovedUptoCard
end Rows
end Go.Proofs.YthlbcfmbldcngaaDoor
