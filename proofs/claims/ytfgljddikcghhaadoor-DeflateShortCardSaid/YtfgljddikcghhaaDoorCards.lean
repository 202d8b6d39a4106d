/-
  DERIVED. GIVEN WITH THE SEED: THE CARDS: each row of YtfgljddikcghhaaDoorRows.lean that lists a variable, with what it lists TIED to the program's text (the seventh form; the later family's looks); each row that meets fmt, with fmt's text TOLD by the authors' own Lean function (tested against real Go, not proved from fmt's source: count such statements apart). THE CARD IS WHAT COUNTS. Prove the row's statement (the work); the ties are given (YtfgljddikcghhaaDoorTie.lean); close each card by the builder's one call (the guide's Derived/Test/ToyasCard.lean, 'card_holds'). Laid BY PROGRAM, IN A SANDBOX (cutbox-door.mjs). By AI agents, Wed Nov 11 2026. No macro, syntax, notation, axiom, sorry.
-/
import Derived.Test.YtfgljddikcghhaaDoorRows
import GoSem.ClaimSeven
namespace Go.Proofs.YtfgljddikcghhaaDoor
namespace Rows

/-- THE TIED CARD OF 'gitlikelaw1.DeflateReads'. -/
def deflateReadsCard : Claim7 := { stood := { row := deflateReadsRow, standIns := [], harness := (true, "1538c98658cea24f2967e112a5bbd3d13f9cefa50f0a9e06ce3629c5f031b726"), looks := true }, kinds := [], alts := [], laidByText := true, laidKinds := [.handle, .widerDeep], laidTests := true, laidLooks := .later }
def DeflateReadsCardSaid : Prop := Claim7.holds Tryd.pinned (.plain (OpenSpec.ofChange deflateReadsSpec)) deflateReadsCard

/-- THE TIED CARD OF 'gitlikelaw1.DeflateRound'. -/
def deflateRoundCard : Claim7 := { stood := { row := deflateRoundRow, standIns := [], harness := (true, "1538c98658cea24f2967e112a5bbd3d13f9cefa50f0a9e06ce3629c5f031b726"), looks := true }, kinds := [], alts := [], laidByText := true, laidKinds := [.handle, .widerDeep], laidTests := true, laidLooks := .later }
def DeflateRoundCardSaid : Prop := Claim7.holds Tryd.pinned (.plain (OpenSpec.ofChange deflateRoundSpec)) deflateRoundCard

/-- THE TIED CARD OF 'gitlikelaw1.DeflateShort'. -/
def deflateShortCard : Claim7 := { stood := { row := deflateShortRow, standIns := [], harness := (true, "1538c98658cea24f2967e112a5bbd3d13f9cefa50f0a9e06ce3629c5f031b726"), looks := true }, kinds := [], alts := [], laidByText := true, laidKinds := [.handle, .widerDeep], laidTests := true, laidLooks := .later }
def DeflateShortCardSaid : Prop := Claim7.holds Tryd.pinned (.plain (OpenSpec.ofChange deflateShortSpec)) deflateShortCard

/-- THE SECOND FORM's CARD OF 'gitlikelaw1.DeflateReads'. -/
def deflateReadsUptoCard : Claim7 := { stood := { row := deflateReadsUptoRow, standIns := [], harness := (true, "1538c98658cea24f2967e112a5bbd3d13f9cefa50f0a9e06ce3629c5f031b726"), looks := true }, kinds := [], alts := [], laidByText := true, laidKinds := [.handle, .widerDeep], laidTests := true, laidLooks := .later }
def DeflateReadsUptoCardSaid : Prop := Claim7.holds Tryd.pinned (.plain (OpenSpec.upto deflateReadsSpec)) deflateReadsUptoCard

/-- THE SECOND FORM's CARD OF 'gitlikelaw1.DeflateRound'. -/
def deflateRoundUptoCard : Claim7 := { stood := { row := deflateRoundUptoRow, standIns := [], harness := (true, "1538c98658cea24f2967e112a5bbd3d13f9cefa50f0a9e06ce3629c5f031b726"), looks := true }, kinds := [], alts := [], laidByText := true, laidKinds := [.handle, .widerDeep], laidTests := true, laidLooks := .later }
def DeflateRoundUptoCardSaid : Prop := Claim7.holds Tryd.pinned (.plain (OpenSpec.upto deflateRoundSpec)) deflateRoundUptoCard

/-- THE SECOND FORM's CARD OF 'gitlikelaw1.DeflateShort'. -/
def deflateShortUptoCard : Claim7 := { stood := { row := deflateShortUptoRow, standIns := [], harness := (true, "1538c98658cea24f2967e112a5bbd3d13f9cefa50f0a9e06ce3629c5f031b726"), looks := true }, kinds := [], alts := [], laidByText := true, laidKinds := [.handle, .widerDeep], laidTests := true, laidLooks := .later }
def DeflateShortUptoCardSaid : Prop := Claim7.holds Tryd.pinned (.plain (OpenSpec.upto deflateShortSpec)) deflateShortUptoCard
end Rows
end Go.Proofs.YtfgljddikcghhaaDoor
