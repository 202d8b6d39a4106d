/-
  DERIVED. GIVEN WITH THE SEED: THE CARDS: each row of YtijidndhlgbjhaaDoorRows.lean that lists a variable, with what it lists TIED to the program's text (the seventh form; the later family's looks); each row that meets fmt, with fmt's text TOLD by the authors' own Lean function (tested against real Go, not proved from fmt's source: count such statements apart). THE CARD IS WHAT COUNTS. Prove the row's statement (the work); the ties are given (YtijidndhlgbjhaaDoorTie.lean); close each card by the builder's one call (the guide's Derived/Test/ToyasCard.lean, 'card_holds'). Laid BY PROGRAM, IN A SANDBOX (cutbox-door.mjs). By AI agents, Wed Nov 11 2026. No macro, syntax, notation, axiom, sorry.
-/
import Derived.Test.YtijidndhlgbjhaaDoorRows
import GoSem.ClaimSeven
namespace Go.Proofs.YtijidndhlgbjhaaDoor
namespace Rows

/-- THE TIED CARD OF 'gitlikelaw7.RefsNames'. -/
def refsNamesCard : Claim7 := { stood := { row := refsNamesRow, standIns := [], harness := (true, "5defad6e9229b018b8cffc6a957cd5b0e93684f90a6a4b65029a4b7506ac245b"), looks := true }, kinds := [], alts := [], laidByText := true, laidKinds := [.data, .pinned], laidTests := true, laidLooks := .later }
def RefsNamesCardSaid : Prop := Claim7.holds Tryd.pinned (.plain (OpenSpec.ofChange refsNamesSpec)) refsNamesCard

/-- THE TIED CARD OF 'gitlikelaw8.StagePaths'. -/
def stagePathsCard : Claim7 := { stood := { row := stagePathsRow, standIns := [], harness := (true, "5defad6e9229b018b8cffc6a957cd5b0e93684f90a6a4b65029a4b7506ac245b"), looks := true }, kinds := [], alts := [], laidByText := true, laidKinds := [.data, .pinned], laidTests := true, laidLooks := .later }
def StagePathsCardSaid : Prop := Claim7.holds Tryd.pinned (.plain (OpenSpec.ofChange stagePathsSpec)) stagePathsCard

/-- THE TIED CARD OF 'gitlikelaw10.DiffPatches'. -/
def diffPatchesCard : Claim7 := { stood := { row := diffPatchesRow, standIns := [], harness := (true, "5defad6e9229b018b8cffc6a957cd5b0e93684f90a6a4b65029a4b7506ac245b"), looks := true }, kinds := [], alts := [], laidByText := true, laidKinds := [.data, .data, .data, .widerDeep], laidTests := true, laidLooks := .later }
def DiffPatchesCardSaid : Prop := Claim7.holds Tryd.pinned (.plain (OpenSpec.ofChange diffPatchesSpec)) diffPatchesCard

/-- THE TIED CARD OF 'gitlikelaw9.GraphOrders'. -/
def graphOrdersCard : Claim7 := { stood := { row := graphOrdersRow, standIns := [], harness := (true, "5defad6e9229b018b8cffc6a957cd5b0e93684f90a6a4b65029a4b7506ac245b"), looks := true }, kinds := [], alts := [], laidByText := true, laidKinds := [.handle], laidTests := true, laidLooks := .later }
def GraphOrdersCardSaid : Prop := Claim7.holds Tryd.pinned (.plain (OpenSpec.ofChange graphOrdersSpec)) graphOrdersCard

/-- THE TIED CARD OF 'gitlikelaw1.DeflateReads'. -/
def deflateReadsCard : Claim7 := { stood := { row := deflateReadsRow, standIns := [], harness := (true, "5defad6e9229b018b8cffc6a957cd5b0e93684f90a6a4b65029a4b7506ac245b"), looks := true }, kinds := [], alts := [], laidByText := true, laidKinds := [.handle, .widerDeep], laidTests := true, laidLooks := .later }
def DeflateReadsCardSaid : Prop := Claim7.holds Tryd.pinned (.plain (OpenSpec.ofChange deflateReadsSpec)) deflateReadsCard

/-- THE TIED CARD OF 'gitlikelaw1.DeflateRound'. -/
def deflateRoundCard : Claim7 := { stood := { row := deflateRoundRow, standIns := [], harness := (true, "5defad6e9229b018b8cffc6a957cd5b0e93684f90a6a4b65029a4b7506ac245b"), looks := true }, kinds := [], alts := [], laidByText := true, laidKinds := [.handle, .widerDeep], laidTests := true, laidLooks := .later }
def DeflateRoundCardSaid : Prop := Claim7.holds Tryd.pinned (.plain (OpenSpec.ofChange deflateRoundSpec)) deflateRoundCard

/-- THE TIED CARD OF 'gitlikelaw1.DeflateShort'. -/
def deflateShortCard : Claim7 := { stood := { row := deflateShortRow, standIns := [], harness := (true, "5defad6e9229b018b8cffc6a957cd5b0e93684f90a6a4b65029a4b7506ac245b"), looks := true }, kinds := [], alts := [], laidByText := true, laidKinds := [.handle, .widerDeep], laidTests := true, laidLooks := .later }
def DeflateShortCardSaid : Prop := Claim7.holds Tryd.pinned (.plain (OpenSpec.ofChange deflateShortSpec)) deflateShortCard

/-- THE TIED CARD OF 'gitlikelaw12.WireLines'. -/
def wireLinesCard : Claim7 := { stood := { row := wireLinesRow, standIns := [], harness := (true, "5defad6e9229b018b8cffc6a957cd5b0e93684f90a6a4b65029a4b7506ac245b"), looks := true }, kinds := [], alts := [], laidByText := true, laidKinds := [.data, .data, .data, .handle, .sentinel, .sentinel], laidTests := true, laidLooks := .later }
def WireLinesCardSaid : Prop := Claim7.holds Tryd.pinned (.plain (OpenSpec.ofChange wireLinesSpec)) wireLinesCard

/-- THE TIED CARD OF 'gitlikelaw9.GraphBases'. -/
def graphBasesCard : Claim7 := { stood := { row := graphBasesRow, standIns := [], harness := (true, "5defad6e9229b018b8cffc6a957cd5b0e93684f90a6a4b65029a4b7506ac245b"), looks := true }, kinds := [], alts := [], laidByText := true, laidKinds := [.handle], laidTests := true, laidLooks := .later }
def GraphBasesCardSaid : Prop := Claim7.holds Tryd.pinned (.plain (OpenSpec.ofChange graphBasesSpec)) graphBasesCard

/-- THE TIED CARD OF 'gitlikelaw9.GraphMeets'. -/
def graphMeetsCard : Claim7 := { stood := { row := graphMeetsRow, standIns := [], harness := (true, "5defad6e9229b018b8cffc6a957cd5b0e93684f90a6a4b65029a4b7506ac245b"), looks := true }, kinds := [], alts := [], laidByText := true, laidKinds := [.handle], laidTests := true, laidLooks := .later }
def GraphMeetsCardSaid : Prop := Claim7.holds Tryd.pinned (.plain (OpenSpec.ofChange graphMeetsSpec)) graphMeetsCard

/-- THE TIED CARD OF 'gitlikelaw4.DeltaMoved'. -/
def deltaMovedCard : Claim7 := { stood := { row := deltaMovedRow, standIns := [], harness := (true, "5defad6e9229b018b8cffc6a957cd5b0e93684f90a6a4b65029a4b7506ac245b"), looks := true }, kinds := [], alts := [], laidByText := true, laidKinds := [.handle], laidTests := true, laidLooks := .later }
def DeltaMovedCardSaid : Prop := Claim7.holds Tryd.pinned (.plain (OpenSpec.ofChange deltaMovedSpec)) deltaMovedCard

/-- THE TIED CARD OF 'gitlikelaw4.DeltaRound'. -/
def deltaRoundCard : Claim7 := { stood := { row := deltaRoundRow, standIns := [], harness := (true, "5defad6e9229b018b8cffc6a957cd5b0e93684f90a6a4b65029a4b7506ac245b"), looks := true }, kinds := [], alts := [], laidByText := true, laidKinds := [.handle], laidTests := true, laidLooks := .later }
def DeltaRoundCardSaid : Prop := Claim7.holds Tryd.pinned (.plain (OpenSpec.ofChange deltaRoundSpec)) deltaRoundCard

/-- THE SECOND FORM's CARD OF 'gitlikelaw7.RefsNames'. -/
def refsNamesUptoCard : Claim7 := { stood := { row := refsNamesUptoRow, standIns := [], harness := (true, "5defad6e9229b018b8cffc6a957cd5b0e93684f90a6a4b65029a4b7506ac245b"), looks := true }, kinds := [], alts := [], laidByText := true, laidKinds := [.data, .pinned], laidTests := true, laidLooks := .later }
def RefsNamesUptoCardSaid : Prop := Claim7.holds Tryd.pinned (.plain (OpenSpec.upto refsNamesSpec)) refsNamesUptoCard

/-- THE SECOND FORM's CARD OF 'gitlikelaw8.StagePaths'. -/
def stagePathsUptoCard : Claim7 := { stood := { row := stagePathsUptoRow, standIns := [], harness := (true, "5defad6e9229b018b8cffc6a957cd5b0e93684f90a6a4b65029a4b7506ac245b"), looks := true }, kinds := [], alts := [], laidByText := true, laidKinds := [.data, .pinned], laidTests := true, laidLooks := .later }
def StagePathsUptoCardSaid : Prop := Claim7.holds Tryd.pinned (.plain (OpenSpec.upto stagePathsSpec)) stagePathsUptoCard

/-- THE SECOND FORM's CARD OF 'gitlikelaw10.DiffPatches'. -/
def diffPatchesUptoCard : Claim7 := { stood := { row := diffPatchesUptoRow, standIns := [], harness := (true, "5defad6e9229b018b8cffc6a957cd5b0e93684f90a6a4b65029a4b7506ac245b"), looks := true }, kinds := [], alts := [], laidByText := true, laidKinds := [.data, .data, .data, .widerDeep], laidTests := true, laidLooks := .later }
def DiffPatchesUptoCardSaid : Prop := Claim7.holds Tryd.pinned (.plain (OpenSpec.upto diffPatchesSpec)) diffPatchesUptoCard

/-- THE SECOND FORM's CARD OF 'gitlikelaw9.GraphOrders'. -/
def graphOrdersUptoCard : Claim7 := { stood := { row := graphOrdersUptoRow, standIns := [], harness := (true, "5defad6e9229b018b8cffc6a957cd5b0e93684f90a6a4b65029a4b7506ac245b"), looks := true }, kinds := [], alts := [], laidByText := true, laidKinds := [.handle], laidTests := true, laidLooks := .later }
def GraphOrdersUptoCardSaid : Prop := Claim7.holds Tryd.pinned (.plain (OpenSpec.upto graphOrdersSpec)) graphOrdersUptoCard

/-- THE SECOND FORM's CARD OF 'gitlikelaw1.DeflateReads'. -/
def deflateReadsUptoCard : Claim7 := { stood := { row := deflateReadsUptoRow, standIns := [], harness := (true, "5defad6e9229b018b8cffc6a957cd5b0e93684f90a6a4b65029a4b7506ac245b"), looks := true }, kinds := [], alts := [], laidByText := true, laidKinds := [.handle, .widerDeep], laidTests := true, laidLooks := .later }
def DeflateReadsUptoCardSaid : Prop := Claim7.holds Tryd.pinned (.plain (OpenSpec.upto deflateReadsSpec)) deflateReadsUptoCard

/-- THE SECOND FORM's CARD OF 'gitlikelaw1.DeflateRound'. -/
def deflateRoundUptoCard : Claim7 := { stood := { row := deflateRoundUptoRow, standIns := [], harness := (true, "5defad6e9229b018b8cffc6a957cd5b0e93684f90a6a4b65029a4b7506ac245b"), looks := true }, kinds := [], alts := [], laidByText := true, laidKinds := [.handle, .widerDeep], laidTests := true, laidLooks := .later }
def DeflateRoundUptoCardSaid : Prop := Claim7.holds Tryd.pinned (.plain (OpenSpec.upto deflateRoundSpec)) deflateRoundUptoCard

/-- THE SECOND FORM's CARD OF 'gitlikelaw1.DeflateShort'. -/
def deflateShortUptoCard : Claim7 := { stood := { row := deflateShortUptoRow, standIns := [], harness := (true, "5defad6e9229b018b8cffc6a957cd5b0e93684f90a6a4b65029a4b7506ac245b"), looks := true }, kinds := [], alts := [], laidByText := true, laidKinds := [.handle, .widerDeep], laidTests := true, laidLooks := .later }
def DeflateShortUptoCardSaid : Prop := Claim7.holds Tryd.pinned (.plain (OpenSpec.upto deflateShortSpec)) deflateShortUptoCard

/-- THE SECOND FORM's CARD OF 'gitlikelaw12.WireLines'. -/
def wireLinesUptoCard : Claim7 := { stood := { row := wireLinesUptoRow, standIns := [], harness := (true, "5defad6e9229b018b8cffc6a957cd5b0e93684f90a6a4b65029a4b7506ac245b"), looks := true }, kinds := [], alts := [], laidByText := true, laidKinds := [.data, .data, .data, .handle, .sentinel, .sentinel], laidTests := true, laidLooks := .later }
def WireLinesUptoCardSaid : Prop := Claim7.holds Tryd.pinned (.plain (OpenSpec.upto wireLinesSpec)) wireLinesUptoCard

/-- THE SECOND FORM's CARD OF 'gitlikelaw9.GraphBases'. -/
def graphBasesUptoCard : Claim7 := { stood := { row := graphBasesUptoRow, standIns := [], harness := (true, "5defad6e9229b018b8cffc6a957cd5b0e93684f90a6a4b65029a4b7506ac245b"), looks := true }, kinds := [], alts := [], laidByText := true, laidKinds := [.handle], laidTests := true, laidLooks := .later }
def GraphBasesUptoCardSaid : Prop := Claim7.holds Tryd.pinned (.plain (OpenSpec.upto graphBasesSpec)) graphBasesUptoCard

/-- THE SECOND FORM's CARD OF 'gitlikelaw9.GraphMeets'. -/
def graphMeetsUptoCard : Claim7 := { stood := { row := graphMeetsUptoRow, standIns := [], harness := (true, "5defad6e9229b018b8cffc6a957cd5b0e93684f90a6a4b65029a4b7506ac245b"), looks := true }, kinds := [], alts := [], laidByText := true, laidKinds := [.handle], laidTests := true, laidLooks := .later }
def GraphMeetsUptoCardSaid : Prop := Claim7.holds Tryd.pinned (.plain (OpenSpec.upto graphMeetsSpec)) graphMeetsUptoCard

/-- THE SECOND FORM's CARD OF 'gitlikelaw4.DeltaMoved'. -/
def deltaMovedUptoCard : Claim7 := { stood := { row := deltaMovedUptoRow, standIns := [], harness := (true, "5defad6e9229b018b8cffc6a957cd5b0e93684f90a6a4b65029a4b7506ac245b"), looks := true }, kinds := [], alts := [], laidByText := true, laidKinds := [.handle], laidTests := true, laidLooks := .later }
def DeltaMovedUptoCardSaid : Prop := Claim7.holds Tryd.pinned (.plain (OpenSpec.upto deltaMovedSpec)) deltaMovedUptoCard

/-- THE SECOND FORM's CARD OF 'gitlikelaw4.DeltaRound'. -/
def deltaRoundUptoCard : Claim7 := { stood := { row := deltaRoundUptoRow, standIns := [], harness := (true, "5defad6e9229b018b8cffc6a957cd5b0e93684f90a6a4b65029a4b7506ac245b"), looks := true }, kinds := [], alts := [], laidByText := true, laidKinds := [.handle], laidTests := true, laidLooks := .later }
def DeltaRoundUptoCardSaid : Prop := Claim7.holds Tryd.pinned (.plain (OpenSpec.upto deltaRoundSpec)) deltaRoundUptoCard
end Rows
end Go.Proofs.YtijidndhlgbjhaaDoor
