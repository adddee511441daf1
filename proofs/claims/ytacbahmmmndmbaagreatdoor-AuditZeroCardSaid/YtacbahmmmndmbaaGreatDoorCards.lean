/-
  DERIVED. GIVEN WITH THE SEED: THE CARDS: each row of YtacbahmmmndmbaaGreatDoorRows.lean that lists a variable, with what it lists TIED to the program's text (the seventh form; the later family's looks); each row that meets fmt, with fmt's text TOLD by the authors' own Lean function (tested against real Go, not proved from fmt's source: count such statements apart). THE CARD IS WHAT COUNTS. Prove the row's statement (the work); the ties are given (YtacbahmmmndmbaaGreatDoorTie.lean); close each card by the builder's one call (the guide's Derived/Test/ToyasCard.lean, 'card_holds'). Laid BY PROGRAM, IN A SANDBOX (cutbox-door.mjs). By AI agents, Wed Nov 11 2026. No macro, syntax, notation, axiom, sorry.
-/
import Derived.Test.YtacbahmmmndmbaaGreatDoorRows
import GoSem.ClaimSeven
namespace Go.Proofs.YtacbahmmmndmbaaGreatDoor
namespace Rows

/-- THE TIED CARD OF 'crierlaw39.BrokerZero'. -/
def brokerZeroCard : Claim7 := { stood := { row := brokerZeroRow, standIns := [], harness := (true, "276e9b9c5d65be8175a7a0ef4828b78745e785a8516290dfb8d753dd31d3d9e2"), looks := true }, kinds := [], alts := [], laidByText := true, laidKinds := [.pinned, .data, .data, .data, .handle, .data, .data, .data], laidTests := true, laidLooks := .later }
def BrokerZeroCardSaid : Prop := Claim7.holds Tryz.pinned (.plain (OpenSpec.ofChange brokerZeroSpec)) brokerZeroCard

/-- THE TIED CARD OF 'crierlaw41.AuditZero'. -/
def auditZeroCard : Claim7 := { stood := { row := auditZeroRow, standIns := [], harness := (true, "276e9b9c5d65be8175a7a0ef4828b78745e785a8516290dfb8d753dd31d3d9e2"), looks := true }, kinds := [], alts := [], laidByText := true, laidKinds := [.pinned, .data, .data, .data, .handle, .data, .data, .data], laidTests := true, laidLooks := .later }
def AuditZeroCardSaid : Prop := Claim7.holds Tryz.pinned (.plain (OpenSpec.ofChange auditZeroSpec)) auditZeroCard

/-- THE SECOND FORM's CARD OF 'crierlaw39.BrokerZero'. -/
def brokerZeroUptoCard : Claim7 := { stood := { row := brokerZeroUptoRow, standIns := [], harness := (true, "276e9b9c5d65be8175a7a0ef4828b78745e785a8516290dfb8d753dd31d3d9e2"), looks := true }, kinds := [], alts := [], laidByText := true, laidKinds := [.pinned, .data, .data, .data, .handle, .data, .data, .data], laidTests := true, laidLooks := .later }
def BrokerZeroUptoCardSaid : Prop := Claim7.holds Tryz.pinned (.plain (OpenSpec.upto brokerZeroSpec)) brokerZeroUptoCard

/-- THE SECOND FORM's CARD OF 'crierlaw41.AuditZero'. -/
def auditZeroUptoCard : Claim7 := { stood := { row := auditZeroUptoRow, standIns := [], harness := (true, "276e9b9c5d65be8175a7a0ef4828b78745e785a8516290dfb8d753dd31d3d9e2"), looks := true }, kinds := [], alts := [], laidByText := true, laidKinds := [.pinned, .data, .data, .data, .handle, .data, .data, .data], laidTests := true, laidLooks := .later }
def AuditZeroUptoCardSaid : Prop := Claim7.holds Tryz.pinned (.plain (OpenSpec.upto auditZeroSpec)) auditZeroUptoCard
end Rows
end Go.Proofs.YtacbahmmmndmbaaGreatDoor
