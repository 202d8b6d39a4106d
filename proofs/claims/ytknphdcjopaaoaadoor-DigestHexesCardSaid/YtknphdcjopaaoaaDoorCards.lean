/-
  DERIVED. GIVEN WITH THE SEED: THE CARDS: each row of YtknphdcjopaaoaaDoorRows.lean that lists a variable, with what it lists TIED to the program's text (the seventh form; the later family's looks); each row that meets fmt, with fmt's text TOLD by the authors' own Lean function (tested against real Go, not proved from fmt's source: count such statements apart). THE CARD IS WHAT COUNTS. Prove the row's statement (the work); the ties are given (YtknphdcjopaaoaaDoorTie.lean); close each card by the builder's one call (the guide's Derived/Test/ToyasCard.lean, 'card_holds'). Laid BY PROGRAM, IN A SANDBOX (cutbox-door.mjs). By AI agents, Wed Nov 11 2026. No macro, syntax, notation, axiom, sorry.
-/
import Derived.Test.YtknphdcjopaaoaaDoorRows
import GoSem.ClaimSeven
namespace Go.Proofs.YtknphdcjopaaoaaDoor
namespace Rows

/-- THE TIED CARD OF 'gitlikelaw9.GraphChecks'. -/
def graphChecksCard : Claim7 := { stood := { row := graphChecksRow, standIns := [], harness := (true, "4a0d6a793211a72540a6c39d7ab3eacea7a30a16076db96fa30ed2e58c6d1b5c"), looks := true }, kinds := [], alts := [], laidByText := true, laidKinds := [.handle], laidTests := true, laidLooks := .later }
def GraphChecksCardSaid : Prop := Claim7.holds Tryd.pinned (.plain (OpenSpec.ofChange graphChecksSpec)) graphChecksCard

/-- THE TIED CARD OF 'gitlikelaw2.DigestHexes'. -/
def digestHexesCard : Claim7 := { stood := { row := digestHexesRow, standIns := [], harness := (true, "4a0d6a793211a72540a6c39d7ab3eacea7a30a16076db96fa30ed2e58c6d1b5c"), looks := true }, kinds := [], alts := [], laidByText := true, laidKinds := [.handle], laidTests := true, laidLooks := .later }
def DigestHexesCardSaid : Prop := Claim7.holds Tryd.pinned (.plain (OpenSpec.ofChange digestHexesSpec)) digestHexesCard

/-- THE TIED CARD OF 'gitlikelaw4.DeltaApplies'. -/
def deltaAppliesCard : Claim7 := { stood := { row := deltaAppliesRow, standIns := [], harness := (true, "4a0d6a793211a72540a6c39d7ab3eacea7a30a16076db96fa30ed2e58c6d1b5c"), looks := true }, kinds := [], alts := [], laidByText := true, laidKinds := [.handle], laidTests := true, laidLooks := .later }
def DeltaAppliesCardSaid : Prop := Claim7.holds Tryd.pinned (.plain (OpenSpec.ofChange deltaAppliesSpec)) deltaAppliesCard

/-- THE TIED CARD OF 'gitlikelaw7.RefsNames'. -/
def refsNamesCard : Claim7 := { stood := { row := refsNamesRow, standIns := [], harness := (true, "4a0d6a793211a72540a6c39d7ab3eacea7a30a16076db96fa30ed2e58c6d1b5c"), looks := true }, kinds := [], alts := [], laidByText := true, laidKinds := [.data, .pinned], laidTests := true, laidLooks := .later }
def RefsNamesCardSaid : Prop := Claim7.holds Tryd.pinned (.plain (OpenSpec.ofChange refsNamesSpec)) refsNamesCard

/-- THE TIED CARD OF 'gitlikelaw8.StagePaths'. -/
def stagePathsCard : Claim7 := { stood := { row := stagePathsRow, standIns := [], harness := (true, "4a0d6a793211a72540a6c39d7ab3eacea7a30a16076db96fa30ed2e58c6d1b5c"), looks := true }, kinds := [], alts := [], laidByText := true, laidKinds := [.data, .pinned], laidTests := true, laidLooks := .later }
def StagePathsCardSaid : Prop := Claim7.holds Tryd.pinned (.plain (OpenSpec.ofChange stagePathsSpec)) stagePathsCard

/-- THE SECOND FORM's CARD OF 'gitlikelaw9.GraphChecks'. -/
def graphChecksUptoCard : Claim7 := { stood := { row := graphChecksUptoRow, standIns := [], harness := (true, "4a0d6a793211a72540a6c39d7ab3eacea7a30a16076db96fa30ed2e58c6d1b5c"), looks := true }, kinds := [], alts := [], laidByText := true, laidKinds := [.handle], laidTests := true, laidLooks := .later }
def GraphChecksUptoCardSaid : Prop := Claim7.holds Tryd.pinned (.plain (OpenSpec.upto graphChecksSpec)) graphChecksUptoCard

/-- THE SECOND FORM's CARD OF 'gitlikelaw2.DigestHexes'. -/
def digestHexesUptoCard : Claim7 := { stood := { row := digestHexesUptoRow, standIns := [], harness := (true, "4a0d6a793211a72540a6c39d7ab3eacea7a30a16076db96fa30ed2e58c6d1b5c"), looks := true }, kinds := [], alts := [], laidByText := true, laidKinds := [.handle], laidTests := true, laidLooks := .later }
def DigestHexesUptoCardSaid : Prop := Claim7.holds Tryd.pinned (.plain (OpenSpec.upto digestHexesSpec)) digestHexesUptoCard

/-- THE SECOND FORM's CARD OF 'gitlikelaw4.DeltaApplies'. -/
def deltaAppliesUptoCard : Claim7 := { stood := { row := deltaAppliesUptoRow, standIns := [], harness := (true, "4a0d6a793211a72540a6c39d7ab3eacea7a30a16076db96fa30ed2e58c6d1b5c"), looks := true }, kinds := [], alts := [], laidByText := true, laidKinds := [.handle], laidTests := true, laidLooks := .later }
def DeltaAppliesUptoCardSaid : Prop := Claim7.holds Tryd.pinned (.plain (OpenSpec.upto deltaAppliesSpec)) deltaAppliesUptoCard

/-- THE SECOND FORM's CARD OF 'gitlikelaw7.RefsNames'. -/
def refsNamesUptoCard : Claim7 := { stood := { row := refsNamesUptoRow, standIns := [], harness := (true, "4a0d6a793211a72540a6c39d7ab3eacea7a30a16076db96fa30ed2e58c6d1b5c"), looks := true }, kinds := [], alts := [], laidByText := true, laidKinds := [.data, .pinned], laidTests := true, laidLooks := .later }
def RefsNamesUptoCardSaid : Prop := Claim7.holds Tryd.pinned (.plain (OpenSpec.upto refsNamesSpec)) refsNamesUptoCard

/-- THE SECOND FORM's CARD OF 'gitlikelaw8.StagePaths'. -/
def stagePathsUptoCard : Claim7 := { stood := { row := stagePathsUptoRow, standIns := [], harness := (true, "4a0d6a793211a72540a6c39d7ab3eacea7a30a16076db96fa30ed2e58c6d1b5c"), looks := true }, kinds := [], alts := [], laidByText := true, laidKinds := [.data, .pinned], laidTests := true, laidLooks := .later }
def StagePathsUptoCardSaid : Prop := Claim7.holds Tryd.pinned (.plain (OpenSpec.upto stagePathsSpec)) stagePathsUptoCard
end Rows
end Go.Proofs.YtknphdcjopaaoaaDoor
