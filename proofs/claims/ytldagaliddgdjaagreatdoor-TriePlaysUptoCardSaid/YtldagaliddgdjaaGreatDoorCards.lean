/-
  DERIVED. GIVEN WITH THE SEED: THE CARDS: each row of YtldagaliddgdjaaGreatDoorRows.lean that lists a variable, with what it lists TIED to the program's text (the seventh form; the later family's looks); each row that meets fmt, with fmt's text TOLD by the authors' own Lean function (tested against real Go, not proved from fmt's source: count such statements apart). THE CARD IS WHAT COUNTS. Prove the row's statement (the work); the ties are given (YtldagaliddgdjaaGreatDoorTie.lean); close each card by the builder's one call (the guide's Derived/Test/ToyasCard.lean, 'card_holds'). Laid BY PROGRAM, IN A SANDBOX (cutbox-door.mjs). By AI agents, Wed Nov 11 2026. No macro, syntax, notation, axiom, sorry.
-/
import Derived.Test.YtldagaliddgdjaaGreatDoorRows
import GoSem.ClaimSeven
namespace Go.Proofs.YtldagaliddgdjaaGreatDoor
namespace Rows

/-- THE TIED CARD OF 'crierlaw19.TriePlays'. -/
def triePlaysCard : Claim7 := { stood := { row := triePlaysRow, standIns := [], harness := (true, "d21ab4866e61f121c230d10a362765f8a1c22b4d0e09b78e730a43b72b43948c"), looks := false }, kinds := [], alts := [], laidByText := true, laidKinds := [.data, .pinned], laidTests := true, laidLooks := .later }
def TriePlaysCardSaid : Prop := Claim7.holds Tryz.pinned (.plain (OpenSpec.ofChange triePlaysSpec)) triePlaysCard

/-- THE SECOND FORM's CARD OF 'crierlaw19.TriePlays'. -/
def triePlaysUptoCard : Claim7 := { stood := { row := triePlaysUptoRow, standIns := [], harness := (true, "d21ab4866e61f121c230d10a362765f8a1c22b4d0e09b78e730a43b72b43948c"), looks := false }, kinds := [], alts := [], laidByText := true, laidKinds := [.data, .pinned], laidTests := true, laidLooks := .later }
def TriePlaysUptoCardSaid : Prop := Claim7.holds Tryz.pinned (.plain (OpenSpec.upto triePlaysSpec)) triePlaysUptoCard
end Rows
end Go.Proofs.YtldagaliddgdjaaGreatDoor
