/-
  DERIVED. GIVEN WITH THE SEED: THE CARDS: each row of YtecociaolohfmaaGreatDoorRows.lean that lists a variable, with what it lists TIED to the program's text (the seventh form; the later family's looks); each row that meets fmt, with fmt's text TOLD by the authors' own Lean function (tested against real Go, not proved from fmt's source: count such statements apart). THE CARD IS WHAT COUNTS. Prove the row's statement (the work); the ties are given (YtecociaolohfmaaGreatDoorTie.lean); close each card by the builder's one call (the guide's Derived/Test/ToyasCard.lean, 'card_holds'). Laid BY PROGRAM, IN A SANDBOX (cutbox-door.mjs). By AI agents, Wed Nov 11 2026. No macro, syntax, notation, axiom, sorry.
-/
import Derived.Test.YtecociaolohfmaaGreatDoorRows
import GoSem.ClaimSeven
namespace Go.Proofs.YtecociaolohfmaaGreatDoor
namespace Rows

/-- THE TIED CARD OF 'crierlaw37.SparkZero'. -/
def sparkZeroCard : Claim7 := { stood := { row := sparkZeroRow, standIns := [], harness := (true, "0db7622c044845cf790955430f1770080ac6920da3f9c59897554a2821076778"), looks := true }, kinds := [], alts := [], laidByText := true, laidKinds := [.data, .handle, .data, .pinned], laidTests := true, laidLooks := .later }
def SparkZeroCardSaid : Prop := Claim7.holds Tryz.pinned (.plain (OpenSpec.ofChange sparkZeroSpec)) sparkZeroCard

/-- THE SECOND FORM's CARD OF 'crierlaw37.SparkZero'. -/
def sparkZeroUptoCard : Claim7 := { stood := { row := sparkZeroUptoRow, standIns := [], harness := (true, "0db7622c044845cf790955430f1770080ac6920da3f9c59897554a2821076778"), looks := true }, kinds := [], alts := [], laidByText := true, laidKinds := [.data, .handle, .data, .pinned], laidTests := true, laidLooks := .later }
def SparkZeroUptoCardSaid : Prop := Claim7.holds Tryz.pinned (.plain (OpenSpec.upto sparkZeroSpec)) sparkZeroUptoCard
end Rows
end Go.Proofs.YtecociaolohfmaaGreatDoor
