/-
  DERIVED. GIVEN WITH THE SEED: THE CARDS: each row of YtedcakchekaemaaGreatDoorRows.lean that lists a variable, with what it lists TIED to the program's text (the seventh form; the later family's looks); each row that meets fmt, with fmt's text TOLD by the authors' own Lean function (tested against real Go, not proved from fmt's source: count such statements apart). THE CARD IS WHAT COUNTS. Prove the row's statement (the work); the ties are given (YtedcakchekaemaaGreatDoorTie.lean); close each card by the builder's one call (the guide's Derived/Test/ToyasCard.lean, 'card_holds'). Laid BY PROGRAM, IN A SANDBOX (cutbox-door.mjs). By AI agents, Wed Nov 11 2026. No macro, syntax, notation, axiom, sorry.
-/
import Derived.Test.YtedcakchekaemaaGreatDoorRows
import GoSem.ClaimSeven
namespace Go.Proofs.YtedcakchekaemaaGreatDoor
namespace Rows

/-- THE TIED CARD OF 'crierlaw37.SparkAsks'. -/
def sparkAsksCard : Claim7 := { stood := { row := sparkAsksRow, standIns := [], harness := (true, "f0725a2b875e12e9fab6b5886f9d7e1ae9e22ce49314d055c6adb5be2bdf3cb6"), looks := true }, kinds := [], alts := [], laidByText := true, laidKinds := [.data, .handle, .data, .pinned], laidTests := true, laidLooks := .later }
def SparkAsksCardSaid : Prop := Claim7.holds Tryz.pinned (.plain (OpenSpec.ofChange sparkAsksSpec)) sparkAsksCard

/-- THE TIED CARD OF 'crierlaw37.SparkBorn'. -/
def sparkBornCard : Claim7 := { stood := { row := sparkBornRow, standIns := [], harness := (true, "f0725a2b875e12e9fab6b5886f9d7e1ae9e22ce49314d055c6adb5be2bdf3cb6"), looks := true }, kinds := [], alts := [], laidByText := true, laidKinds := [.data, .handle, .data, .pinned], laidTests := true, laidLooks := .later }
def SparkBornCardSaid : Prop := Claim7.holds Tryz.pinned (.plain (OpenSpec.ofChange sparkBornSpec)) sparkBornCard

/-- THE TIED CARD OF 'crierlaw37.SparkAlone'. -/
def sparkAloneCard : Claim7 := { stood := { row := sparkAloneRow, standIns := [], harness := (true, "f0725a2b875e12e9fab6b5886f9d7e1ae9e22ce49314d055c6adb5be2bdf3cb6"), looks := true }, kinds := [], alts := [], laidByText := true, laidKinds := [.data, .handle, .data, .pinned], laidTests := true, laidLooks := .later }
def SparkAloneCardSaid : Prop := Claim7.holds Tryz.pinned (.plain (OpenSpec.ofChange sparkAloneSpec)) sparkAloneCard

/-- THE TIED CARD OF 'crierlaw37.SparkRefused'. -/
def sparkRefusedCard : Claim7 := { stood := { row := sparkRefusedRow, standIns := [], harness := (true, "f0725a2b875e12e9fab6b5886f9d7e1ae9e22ce49314d055c6adb5be2bdf3cb6"), looks := true }, kinds := [], alts := [], laidByText := true, laidKinds := [.data, .handle, .data, .pinned], laidTests := true, laidLooks := .later }
def SparkRefusedCardSaid : Prop := Claim7.holds Tryz.pinned (.plain (OpenSpec.ofChange sparkRefusedSpec)) sparkRefusedCard

/-- THE TIED CARD OF 'crierlaw37.SparkPlays'. -/
def sparkPlaysCard : Claim7 := { stood := { row := sparkPlaysRow, standIns := [], harness := (true, "f0725a2b875e12e9fab6b5886f9d7e1ae9e22ce49314d055c6adb5be2bdf3cb6"), looks := true }, kinds := [], alts := [], laidByText := true, laidKinds := [.data, .handle, .data, .pinned], laidTests := true, laidLooks := .later }
def SparkPlaysCardSaid : Prop := Claim7.holds Tryz.pinned (.plain (OpenSpec.ofChange sparkPlaysSpec)) sparkPlaysCard

/-- THE SECOND FORM's CARD OF 'crierlaw37.SparkAsks'. -/
def sparkAsksUptoCard : Claim7 := { stood := { row := sparkAsksUptoRow, standIns := [], harness := (true, "f0725a2b875e12e9fab6b5886f9d7e1ae9e22ce49314d055c6adb5be2bdf3cb6"), looks := true }, kinds := [], alts := [], laidByText := true, laidKinds := [.data, .handle, .data, .pinned], laidTests := true, laidLooks := .later }
def SparkAsksUptoCardSaid : Prop := Claim7.holds Tryz.pinned (.plain (OpenSpec.upto sparkAsksSpec)) sparkAsksUptoCard

/-- THE SECOND FORM's CARD OF 'crierlaw37.SparkBorn'. -/
def sparkBornUptoCard : Claim7 := { stood := { row := sparkBornUptoRow, standIns := [], harness := (true, "f0725a2b875e12e9fab6b5886f9d7e1ae9e22ce49314d055c6adb5be2bdf3cb6"), looks := true }, kinds := [], alts := [], laidByText := true, laidKinds := [.data, .handle, .data, .pinned], laidTests := true, laidLooks := .later }
def SparkBornUptoCardSaid : Prop := Claim7.holds Tryz.pinned (.plain (OpenSpec.upto sparkBornSpec)) sparkBornUptoCard

/-- THE SECOND FORM's CARD OF 'crierlaw37.SparkAlone'. -/
def sparkAloneUptoCard : Claim7 := { stood := { row := sparkAloneUptoRow, standIns := [], harness := (true, "f0725a2b875e12e9fab6b5886f9d7e1ae9e22ce49314d055c6adb5be2bdf3cb6"), looks := true }, kinds := [], alts := [], laidByText := true, laidKinds := [.data, .handle, .data, .pinned], laidTests := true, laidLooks := .later }
def SparkAloneUptoCardSaid : Prop := Claim7.holds Tryz.pinned (.plain (OpenSpec.upto sparkAloneSpec)) sparkAloneUptoCard

/-- THE SECOND FORM's CARD OF 'crierlaw37.SparkRefused'. -/
def sparkRefusedUptoCard : Claim7 := { stood := { row := sparkRefusedUptoRow, standIns := [], harness := (true, "f0725a2b875e12e9fab6b5886f9d7e1ae9e22ce49314d055c6adb5be2bdf3cb6"), looks := true }, kinds := [], alts := [], laidByText := true, laidKinds := [.data, .handle, .data, .pinned], laidTests := true, laidLooks := .later }
def SparkRefusedUptoCardSaid : Prop := Claim7.holds Tryz.pinned (.plain (OpenSpec.upto sparkRefusedSpec)) sparkRefusedUptoCard

/-- THE SECOND FORM's CARD OF 'crierlaw37.SparkPlays'. -/
def sparkPlaysUptoCard : Claim7 := { stood := { row := sparkPlaysUptoRow, standIns := [], harness := (true, "f0725a2b875e12e9fab6b5886f9d7e1ae9e22ce49314d055c6adb5be2bdf3cb6"), looks := true }, kinds := [], alts := [], laidByText := true, laidKinds := [.data, .handle, .data, .pinned], laidTests := true, laidLooks := .later }
def SparkPlaysUptoCardSaid : Prop := Claim7.holds Tryz.pinned (.plain (OpenSpec.upto sparkPlaysSpec)) sparkPlaysUptoCard
end Rows
end Go.Proofs.YtedcakchekaemaaGreatDoor
