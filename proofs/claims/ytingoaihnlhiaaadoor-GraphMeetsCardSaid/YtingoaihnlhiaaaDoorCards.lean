/-
  DERIVED. GIVEN WITH THE SEED: THE CARDS: each row of YtingoaihnlhiaaaDoorRows.lean that lists a variable, with what it lists TIED to the program's text (the seventh form; the later family's looks); each row that meets fmt, with fmt's text TOLD by the authors' own Lean function (tested against real Go, not proved from fmt's source: count such statements apart). THE CARD IS WHAT COUNTS. Prove the row's statement (the work); the ties are given (YtingoaihnlhiaaaDoorTie.lean); close each card by the builder's one call (the guide's Derived/Test/ToyasCard.lean, 'card_holds'). Laid BY PROGRAM, IN A SANDBOX (cutbox-door.mjs). By AI agents, Wed Nov 11 2026. No macro, syntax, notation, axiom, sorry.
-/
import Derived.Test.YtingoaihnlhiaaaDoorRows
import GoSem.ClaimSeven
namespace Go.Proofs.YtingoaihnlhiaaaDoor
namespace Rows

/-- THE TIED CARD OF 'gitlikelaw9.GraphOrders'. -/
def graphOrdersCard : Claim7 := { stood := { row := graphOrdersRow, standIns := [], harness := (true, "39e33661b3df449857456570c2a248c47def025802fa2ecef979a36e033f17ae"), looks := true }, kinds := [], alts := [], laidByText := true, laidKinds := [.handle], laidTests := true, laidLooks := .later }
def GraphOrdersCardSaid : Prop := Claim7.holds Tryd.pinned (.plain (OpenSpec.ofChange graphOrdersSpec)) graphOrdersCard

/-- THE TIED CARD OF 'gitlikelaw9.GraphBases'. -/
def graphBasesCard : Claim7 := { stood := { row := graphBasesRow, standIns := [], harness := (true, "39e33661b3df449857456570c2a248c47def025802fa2ecef979a36e033f17ae"), looks := true }, kinds := [], alts := [], laidByText := true, laidKinds := [.handle], laidTests := true, laidLooks := .later }
def GraphBasesCardSaid : Prop := Claim7.holds Tryd.pinned (.plain (OpenSpec.ofChange graphBasesSpec)) graphBasesCard

/-- THE TIED CARD OF 'gitlikelaw9.GraphMeets'. -/
def graphMeetsCard : Claim7 := { stood := { row := graphMeetsRow, standIns := [], harness := (true, "39e33661b3df449857456570c2a248c47def025802fa2ecef979a36e033f17ae"), looks := true }, kinds := [], alts := [], laidByText := true, laidKinds := [.handle], laidTests := true, laidLooks := .later }
def GraphMeetsCardSaid : Prop := Claim7.holds Tryd.pinned (.plain (OpenSpec.ofChange graphMeetsSpec)) graphMeetsCard

/-- THE SECOND FORM's CARD OF 'gitlikelaw9.GraphOrders'. -/
def graphOrdersUptoCard : Claim7 := { stood := { row := graphOrdersUptoRow, standIns := [], harness := (true, "39e33661b3df449857456570c2a248c47def025802fa2ecef979a36e033f17ae"), looks := true }, kinds := [], alts := [], laidByText := true, laidKinds := [.handle], laidTests := true, laidLooks := .later }
def GraphOrdersUptoCardSaid : Prop := Claim7.holds Tryd.pinned (.plain (OpenSpec.upto graphOrdersSpec)) graphOrdersUptoCard

/-- THE SECOND FORM's CARD OF 'gitlikelaw9.GraphBases'. -/
def graphBasesUptoCard : Claim7 := { stood := { row := graphBasesUptoRow, standIns := [], harness := (true, "39e33661b3df449857456570c2a248c47def025802fa2ecef979a36e033f17ae"), looks := true }, kinds := [], alts := [], laidByText := true, laidKinds := [.handle], laidTests := true, laidLooks := .later }
def GraphBasesUptoCardSaid : Prop := Claim7.holds Tryd.pinned (.plain (OpenSpec.upto graphBasesSpec)) graphBasesUptoCard

/-- THE SECOND FORM's CARD OF 'gitlikelaw9.GraphMeets'. -/
def graphMeetsUptoCard : Claim7 := { stood := { row := graphMeetsUptoRow, standIns := [], harness := (true, "39e33661b3df449857456570c2a248c47def025802fa2ecef979a36e033f17ae"), looks := true }, kinds := [], alts := [], laidByText := true, laidKinds := [.handle], laidTests := true, laidLooks := .later }
def GraphMeetsUptoCardSaid : Prop := Claim7.holds Tryd.pinned (.plain (OpenSpec.upto graphMeetsSpec)) graphMeetsUptoCard
end Rows
end Go.Proofs.YtingoaihnlhiaaaDoor
