/-
  DERIVED. GIVEN WITH THE SEED: THE CARDS: each row of YtjfmbjgniajagaaGreatDoorRows.lean that lists a variable, with what it lists TIED to the program's text (the seventh form; the later family's looks); each row that meets fmt, with fmt's text TOLD by the authors' own Lean function (tested against real Go, not proved from fmt's source: count such statements apart). THE CARD IS WHAT COUNTS. Prove the row's statement (the work); the ties are given (YtjfmbjgniajagaaGreatDoorTie.lean); close each card by the builder's one call (the guide's Derived/Test/ToyasCard.lean, 'card_holds'). Laid BY PROGRAM, IN A SANDBOX (cutbox-door.mjs). By AI agents, Wed Nov 11 2026. No macro, syntax, notation, axiom, sorry.
-/
import Derived.Test.YtjfmbjgniajagaaGreatDoorRows
import GoSem.ClaimSeven
namespace Go.Proofs.YtjfmbjgniajagaaGreatDoor
namespace Rows

/-- THE TIED CARD OF 'crierlaw33.EdgeGap'. -/
def edgeGapCard : Claim7 := { stood := { row := edgeGapRow, standIns := [], harness := (true, "c73cca126995f113ec05c85ba0e1ed75a826d4355ae90f1490f0fcdbf2a03b3c"), looks := true }, kinds := [], alts := [], laidByText := true, laidKinds := [.handle], laidTests := true, laidLooks := .later }
def EdgeGapCardSaid : Prop := Claim7.holds Tryz.pinned (.plain (OpenSpec.ofChange edgeGapSpec)) edgeGapCard

/-- THE TIED CARD OF 'crierlaw33.EdgeRefused'. -/
def edgeRefusedCard : Claim7 := { stood := { row := edgeRefusedRow, standIns := [], harness := (true, "c73cca126995f113ec05c85ba0e1ed75a826d4355ae90f1490f0fcdbf2a03b3c"), looks := true }, kinds := [], alts := [], laidByText := true, laidKinds := [.handle], laidTests := true, laidLooks := .later }
def EdgeRefusedCardSaid : Prop := Claim7.holds Tryz.pinned (.plain (OpenSpec.ofChange edgeRefusedSpec)) edgeRefusedCard

/-- THE TIED CARD OF 'crierlaw33.EdgeDevices'. -/
def edgeDevicesCard : Claim7 := { stood := { row := edgeDevicesRow, standIns := [], harness := (true, "c73cca126995f113ec05c85ba0e1ed75a826d4355ae90f1490f0fcdbf2a03b3c"), looks := true }, kinds := [], alts := [], laidByText := true, laidKinds := [.handle], laidTests := true, laidLooks := .later }
def EdgeDevicesCardSaid : Prop := Claim7.holds Tryz.pinned (.plain (OpenSpec.ofChange edgeDevicesSpec)) edgeDevicesCard

/-- THE TIED CARD OF 'crierlaw33.EdgeBorn'. -/
def edgeBornCard : Claim7 := { stood := { row := edgeBornRow, standIns := [], harness := (true, "c73cca126995f113ec05c85ba0e1ed75a826d4355ae90f1490f0fcdbf2a03b3c"), looks := true }, kinds := [], alts := [], laidByText := true, laidKinds := [.handle], laidTests := true, laidLooks := .later }
def EdgeBornCardSaid : Prop := Claim7.holds Tryz.pinned (.plain (OpenSpec.ofChange edgeBornSpec)) edgeBornCard

/-- THE TIED CARD OF 'crierlaw33.EdgePlays'. -/
def edgePlaysCard : Claim7 := { stood := { row := edgePlaysRow, standIns := [], harness := (true, "c73cca126995f113ec05c85ba0e1ed75a826d4355ae90f1490f0fcdbf2a03b3c"), looks := true }, kinds := [], alts := [], laidByText := true, laidKinds := [.handle], laidTests := true, laidLooks := .later }
def EdgePlaysCardSaid : Prop := Claim7.holds Tryz.pinned (.plain (OpenSpec.ofChange edgePlaysSpec)) edgePlaysCard

/-- THE TIED CARD OF 'crierlaw33.EdgeZero'. -/
def edgeZeroCard : Claim7 := { stood := { row := edgeZeroRow, standIns := [], harness := (true, "c73cca126995f113ec05c85ba0e1ed75a826d4355ae90f1490f0fcdbf2a03b3c"), looks := true }, kinds := [], alts := [], laidByText := true, laidKinds := [.handle], laidTests := true, laidLooks := .later }
def EdgeZeroCardSaid : Prop := Claim7.holds Tryz.pinned (.plain (OpenSpec.ofChange edgeZeroSpec)) edgeZeroCard

/-- THE SECOND FORM's CARD OF 'crierlaw33.EdgeGap'. -/
def edgeGapUptoCard : Claim7 := { stood := { row := edgeGapUptoRow, standIns := [], harness := (true, "c73cca126995f113ec05c85ba0e1ed75a826d4355ae90f1490f0fcdbf2a03b3c"), looks := true }, kinds := [], alts := [], laidByText := true, laidKinds := [.handle], laidTests := true, laidLooks := .later }
def EdgeGapUptoCardSaid : Prop := Claim7.holds Tryz.pinned (.plain (OpenSpec.upto edgeGapSpec)) edgeGapUptoCard

/-- THE SECOND FORM's CARD OF 'crierlaw33.EdgeRefused'. -/
def edgeRefusedUptoCard : Claim7 := { stood := { row := edgeRefusedUptoRow, standIns := [], harness := (true, "c73cca126995f113ec05c85ba0e1ed75a826d4355ae90f1490f0fcdbf2a03b3c"), looks := true }, kinds := [], alts := [], laidByText := true, laidKinds := [.handle], laidTests := true, laidLooks := .later }
def EdgeRefusedUptoCardSaid : Prop := Claim7.holds Tryz.pinned (.plain (OpenSpec.upto edgeRefusedSpec)) edgeRefusedUptoCard

/-- THE SECOND FORM's CARD OF 'crierlaw33.EdgeDevices'. -/
def edgeDevicesUptoCard : Claim7 := { stood := { row := edgeDevicesUptoRow, standIns := [], harness := (true, "c73cca126995f113ec05c85ba0e1ed75a826d4355ae90f1490f0fcdbf2a03b3c"), looks := true }, kinds := [], alts := [], laidByText := true, laidKinds := [.handle], laidTests := true, laidLooks := .later }
def EdgeDevicesUptoCardSaid : Prop := Claim7.holds Tryz.pinned (.plain (OpenSpec.upto edgeDevicesSpec)) edgeDevicesUptoCard

/-- THE SECOND FORM's CARD OF 'crierlaw33.EdgeBorn'. -/
def edgeBornUptoCard : Claim7 := { stood := { row := edgeBornUptoRow, standIns := [], harness := (true, "c73cca126995f113ec05c85ba0e1ed75a826d4355ae90f1490f0fcdbf2a03b3c"), looks := true }, kinds := [], alts := [], laidByText := true, laidKinds := [.handle], laidTests := true, laidLooks := .later }
def EdgeBornUptoCardSaid : Prop := Claim7.holds Tryz.pinned (.plain (OpenSpec.upto edgeBornSpec)) edgeBornUptoCard

/-- THE SECOND FORM's CARD OF 'crierlaw33.EdgePlays'. -/
def edgePlaysUptoCard : Claim7 := { stood := { row := edgePlaysUptoRow, standIns := [], harness := (true, "c73cca126995f113ec05c85ba0e1ed75a826d4355ae90f1490f0fcdbf2a03b3c"), looks := true }, kinds := [], alts := [], laidByText := true, laidKinds := [.handle], laidTests := true, laidLooks := .later }
def EdgePlaysUptoCardSaid : Prop := Claim7.holds Tryz.pinned (.plain (OpenSpec.upto edgePlaysSpec)) edgePlaysUptoCard

/-- THE SECOND FORM's CARD OF 'crierlaw33.EdgeZero'. -/
def edgeZeroUptoCard : Claim7 := { stood := { row := edgeZeroUptoRow, standIns := [], harness := (true, "c73cca126995f113ec05c85ba0e1ed75a826d4355ae90f1490f0fcdbf2a03b3c"), looks := true }, kinds := [], alts := [], laidByText := true, laidKinds := [.handle], laidTests := true, laidLooks := .later }
def EdgeZeroUptoCardSaid : Prop := Claim7.holds Tryz.pinned (.plain (OpenSpec.upto edgeZeroSpec)) edgeZeroUptoCard
end Rows
end Go.Proofs.YtjfmbjgniajagaaGreatDoor
