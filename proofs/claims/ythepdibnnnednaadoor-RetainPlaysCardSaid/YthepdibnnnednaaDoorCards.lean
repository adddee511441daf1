/-
  DERIVED. GIVEN WITH THE SEED: THE CARDS: each row of YthepdibnnnednaaDoorRows.lean that lists a variable, with what it lists TIED to the program's text (the seventh form; the later family's looks); each row that meets fmt, with fmt's text TOLD by the authors' own Lean function (tested against real Go, not proved from fmt's source: count such statements apart). THE CARD IS WHAT COUNTS. Prove the row's statement (the work); the ties are given (YthepdibnnnednaaDoorTie.lean); close each card by the builder's one call (the guide's Derived/Test/ToyasCard.lean, 'card_holds'). Laid BY PROGRAM, IN A SANDBOX (cutbox-door.mjs). By AI agents, Wed Nov 11 2026. No macro, syntax, notation, axiom, sorry.
-/
import Derived.Test.YthepdibnnnednaaDoorRows
import GoSem.ClaimSeven
namespace Go.Proofs.YthepdibnnnednaaDoor
namespace Rows

/-- THE TIED CARD OF 'crierlaw27.RetainLast'. -/
def retainLastCard : Claim7 := { stood := { row := retainLastRow, standIns := [], harness := (true, "df838e3da3743a1257a21fefad4764b5379c93f07b06f64e28306c9756d25070"), looks := false }, kinds := [], alts := [], laidByText := true, laidKinds := [.data, .pinned], laidTests := true, laidLooks := .later }
def RetainLastCardSaid : Prop := Claim7.holds Tryd.pinned (.plain (OpenSpec.ofChange retainLastSpec)) retainLastCard

/-- THE TIED CARD OF 'crierlaw27.RetainRoom'. -/
def retainRoomCard : Claim7 := { stood := { row := retainRoomRow, standIns := [], harness := (true, "df838e3da3743a1257a21fefad4764b5379c93f07b06f64e28306c9756d25070"), looks := false }, kinds := [], alts := [], laidByText := true, laidKinds := [.data, .pinned], laidTests := true, laidLooks := .later }
def RetainRoomCardSaid : Prop := Claim7.holds Tryd.pinned (.plain (OpenSpec.ofChange retainRoomSpec)) retainRoomCard

/-- THE TIED CARD OF 'crierlaw27.RetainPlays'. -/
def retainPlaysCard : Claim7 := { stood := { row := retainPlaysRow, standIns := [], harness := (true, "df838e3da3743a1257a21fefad4764b5379c93f07b06f64e28306c9756d25070"), looks := false }, kinds := [], alts := [], laidByText := true, laidKinds := [.data, .pinned], laidTests := true, laidLooks := .later }
def RetainPlaysCardSaid : Prop := Claim7.holds Tryd.pinned (.plain (OpenSpec.ofChange retainPlaysSpec)) retainPlaysCard

/-- THE TIED CARD OF 'crierlaw27.RetainFinds'. -/
def retainFindsCard : Claim7 := { stood := { row := retainFindsRow, standIns := [], harness := (true, "df838e3da3743a1257a21fefad4764b5379c93f07b06f64e28306c9756d25070"), looks := false }, kinds := [], alts := [], laidByText := true, laidKinds := [.data, .pinned], laidTests := true, laidLooks := .later }
def RetainFindsCardSaid : Prop := Claim7.holds Tryd.pinned (.plain (OpenSpec.ofChange retainFindsSpec)) retainFindsCard

/-- THE TIED CARD OF 'crierlaw27.RetainZero'. -/
def retainZeroCard : Claim7 := { stood := { row := retainZeroRow, standIns := [], harness := (true, "df838e3da3743a1257a21fefad4764b5379c93f07b06f64e28306c9756d25070"), looks := false }, kinds := [], alts := [], laidByText := true, laidKinds := [.data, .pinned], laidTests := true, laidLooks := .later }
def RetainZeroCardSaid : Prop := Claim7.holds Tryd.pinned (.plain (OpenSpec.ofChange retainZeroSpec)) retainZeroCard

/-- THE SECOND FORM's CARD OF 'crierlaw27.RetainLast'. -/
def retainLastUptoCard : Claim7 := { stood := { row := retainLastUptoRow, standIns := [], harness := (true, "df838e3da3743a1257a21fefad4764b5379c93f07b06f64e28306c9756d25070"), looks := false }, kinds := [], alts := [], laidByText := true, laidKinds := [.data, .pinned], laidTests := true, laidLooks := .later }
def RetainLastUptoCardSaid : Prop := Claim7.holds Tryd.pinned (.plain (OpenSpec.upto retainLastSpec)) retainLastUptoCard

/-- THE SECOND FORM's CARD OF 'crierlaw27.RetainRoom'. -/
def retainRoomUptoCard : Claim7 := { stood := { row := retainRoomUptoRow, standIns := [], harness := (true, "df838e3da3743a1257a21fefad4764b5379c93f07b06f64e28306c9756d25070"), looks := false }, kinds := [], alts := [], laidByText := true, laidKinds := [.data, .pinned], laidTests := true, laidLooks := .later }
def RetainRoomUptoCardSaid : Prop := Claim7.holds Tryd.pinned (.plain (OpenSpec.upto retainRoomSpec)) retainRoomUptoCard

/-- THE SECOND FORM's CARD OF 'crierlaw27.RetainPlays'. -/
def retainPlaysUptoCard : Claim7 := { stood := { row := retainPlaysUptoRow, standIns := [], harness := (true, "df838e3da3743a1257a21fefad4764b5379c93f07b06f64e28306c9756d25070"), looks := false }, kinds := [], alts := [], laidByText := true, laidKinds := [.data, .pinned], laidTests := true, laidLooks := .later }
def RetainPlaysUptoCardSaid : Prop := Claim7.holds Tryd.pinned (.plain (OpenSpec.upto retainPlaysSpec)) retainPlaysUptoCard

/-- THE SECOND FORM's CARD OF 'crierlaw27.RetainFinds'. -/
def retainFindsUptoCard : Claim7 := { stood := { row := retainFindsUptoRow, standIns := [], harness := (true, "df838e3da3743a1257a21fefad4764b5379c93f07b06f64e28306c9756d25070"), looks := false }, kinds := [], alts := [], laidByText := true, laidKinds := [.data, .pinned], laidTests := true, laidLooks := .later }
def RetainFindsUptoCardSaid : Prop := Claim7.holds Tryd.pinned (.plain (OpenSpec.upto retainFindsSpec)) retainFindsUptoCard

/-- THE SECOND FORM's CARD OF 'crierlaw27.RetainZero'. -/
def retainZeroUptoCard : Claim7 := { stood := { row := retainZeroUptoRow, standIns := [], harness := (true, "df838e3da3743a1257a21fefad4764b5379c93f07b06f64e28306c9756d25070"), looks := false }, kinds := [], alts := [], laidByText := true, laidKinds := [.data, .pinned], laidTests := true, laidLooks := .later }
def RetainZeroUptoCardSaid : Prop := Claim7.holds Tryd.pinned (.plain (OpenSpec.upto retainZeroSpec)) retainZeroUptoCard
end Rows
end Go.Proofs.YthepdibnnnednaaDoor
