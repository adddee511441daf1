/-
  DERIVED. GIVEN WITH THE SEED: THE CARDS: each row of YtamclcdcpaiojaaDoorRows.lean that lists a variable, with what it lists TIED to the program's text (the seventh form; the later family's looks); each row that meets fmt, with fmt's text TOLD by the authors' own Lean function (tested against real Go, not proved from fmt's source: count such statements apart). THE CARD IS WHAT COUNTS. Prove the row's statement (the work); the ties are given (YtamclcdcpaiojaaDoorTie.lean); close each card by the builder's one call (the guide's Derived/Test/ToyasCard.lean, 'card_holds'). Laid BY PROGRAM, IN A SANDBOX (cutbox-door.mjs). By AI agents, Wed Nov 11 2026. No macro, syntax, notation, axiom, sorry.
-/
import Derived.Test.YtamclcdcpaiojaaDoorRows
import GoSem.ClaimSeven
namespace Go.Proofs.YtamclcdcpaiojaaDoor
namespace Rows

/-- THE TIED CARD OF 'crierlaw19.TrieOrder'. -/
def trieOrderCard : Claim7 := { stood := { row := trieOrderRow, standIns := [], harness := (true, "c19701f5e28a92082b4126c312c5ffe489c06b580cf5d56b01615552a2805457"), looks := false }, kinds := [], alts := [], laidByText := true, laidKinds := [.data, .pinned], laidTests := true, laidLooks := .later }
def TrieOrderCardSaid : Prop := Claim7.holds Tryd.pinned (.plain (OpenSpec.ofChange trieOrderSpec)) trieOrderCard

/-- THE TIED CARD OF 'crierlaw19.TrieWants'. -/
def trieWantsCard : Claim7 := { stood := { row := trieWantsRow, standIns := [], harness := (true, "c19701f5e28a92082b4126c312c5ffe489c06b580cf5d56b01615552a2805457"), looks := false }, kinds := [], alts := [], laidByText := true, laidKinds := [.data, .pinned], laidTests := true, laidLooks := .later }
def TrieWantsCardSaid : Prop := Claim7.holds Tryd.pinned (.plain (OpenSpec.ofChange trieWantsSpec)) trieWantsCard

/-- THE TIED CARD OF 'crierlaw19.TrieGone'. -/
def trieGoneCard : Claim7 := { stood := { row := trieGoneRow, standIns := [], harness := (true, "c19701f5e28a92082b4126c312c5ffe489c06b580cf5d56b01615552a2805457"), looks := false }, kinds := [], alts := [], laidByText := true, laidKinds := [.data, .pinned], laidTests := true, laidLooks := .later }
def TrieGoneCardSaid : Prop := Claim7.holds Tryd.pinned (.plain (OpenSpec.ofChange trieGoneSpec)) trieGoneCard

/-- THE TIED CARD OF 'crierlaw19.TrieZero'. -/
def trieZeroCard : Claim7 := { stood := { row := trieZeroRow, standIns := [], harness := (true, "c19701f5e28a92082b4126c312c5ffe489c06b580cf5d56b01615552a2805457"), looks := false }, kinds := [], alts := [], laidByText := true, laidKinds := [.data, .pinned], laidTests := true, laidLooks := .later }
def TrieZeroCardSaid : Prop := Claim7.holds Tryd.pinned (.plain (OpenSpec.ofChange trieZeroSpec)) trieZeroCard

/-- THE SECOND FORM's CARD OF 'crierlaw19.TrieOrder'. -/
def trieOrderUptoCard : Claim7 := { stood := { row := trieOrderUptoRow, standIns := [], harness := (true, "c19701f5e28a92082b4126c312c5ffe489c06b580cf5d56b01615552a2805457"), looks := false }, kinds := [], alts := [], laidByText := true, laidKinds := [.data, .pinned], laidTests := true, laidLooks := .later }
def TrieOrderUptoCardSaid : Prop := Claim7.holds Tryd.pinned (.plain (OpenSpec.upto trieOrderSpec)) trieOrderUptoCard

/-- THE SECOND FORM's CARD OF 'crierlaw19.TrieWants'. -/
def trieWantsUptoCard : Claim7 := { stood := { row := trieWantsUptoRow, standIns := [], harness := (true, "c19701f5e28a92082b4126c312c5ffe489c06b580cf5d56b01615552a2805457"), looks := false }, kinds := [], alts := [], laidByText := true, laidKinds := [.data, .pinned], laidTests := true, laidLooks := .later }
def TrieWantsUptoCardSaid : Prop := Claim7.holds Tryd.pinned (.plain (OpenSpec.upto trieWantsSpec)) trieWantsUptoCard

/-- THE SECOND FORM's CARD OF 'crierlaw19.TrieGone'. -/
def trieGoneUptoCard : Claim7 := { stood := { row := trieGoneUptoRow, standIns := [], harness := (true, "c19701f5e28a92082b4126c312c5ffe489c06b580cf5d56b01615552a2805457"), looks := false }, kinds := [], alts := [], laidByText := true, laidKinds := [.data, .pinned], laidTests := true, laidLooks := .later }
def TrieGoneUptoCardSaid : Prop := Claim7.holds Tryd.pinned (.plain (OpenSpec.upto trieGoneSpec)) trieGoneUptoCard

/-- THE SECOND FORM's CARD OF 'crierlaw19.TrieZero'. -/
def trieZeroUptoCard : Claim7 := { stood := { row := trieZeroUptoRow, standIns := [], harness := (true, "c19701f5e28a92082b4126c312c5ffe489c06b580cf5d56b01615552a2805457"), looks := false }, kinds := [], alts := [], laidByText := true, laidKinds := [.data, .pinned], laidTests := true, laidLooks := .later }
def TrieZeroUptoCardSaid : Prop := Claim7.holds Tryd.pinned (.plain (OpenSpec.upto trieZeroSpec)) trieZeroUptoCard
end Rows
end Go.Proofs.YtamclcdcpaiojaaDoor
