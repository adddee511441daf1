/- How arguments that came in are told to a walk. -/
import Derived.Test.YtacbahmmmndmbaaGreatDoorBase
import Derived.SliceStrings
import Derived.SizedLaws
namespace Go.Proofs.YtacbahmmmndmbaaGreatDoor
open Go.RowKit

theorem reach_string {a : ByteArray} (h : a.data.toList.length ≤ reachBytes) : a.size ≤ 140737488351232 := by
  rw [Array.length_toList] at h
  exact h

/-- A []string that came in: its elements. -/
def StrRow (w : World) (a : Option Addr) (len : Nat) (ss : Nat → ByteArray) : Prop :=
  len ≤ 9223372036854775807 ∧ (0 < len → ∃ b o, a = some ⟨b, o, none⟩ ∧ b < w.heap.size ∧ ∀ i, i < len → w.cell? ⟨b, o + i, none⟩ = some (.string (ss i)))

theorem strRow_nil (w : World) (a : Option Addr) (ss : Nat → ByteArray) : StrRow w a 0 ss := ⟨by omega, fun h => by omega⟩
theorem strRow_of {w : World} {a : Addr} {len cap : Nat} {ss : List ByteArray} (hl : len ≤ cap) (hm : cap ≤ maxLen) (hz : ss.length = cap) (hc : ∀ i, i < ss.length → w.cell? (a.add i) = some (.string (ss.getD i ByteArray.empty))) :
    StrRow w (some a) len (fun i => ss.getD i ByteArray.empty) := by
  refine ⟨by unfold maxLen at hm; omega, fun h => ?_⟩
  obtain ⟨b, o, sp⟩ := a
  have h0 := hc 0 (by omega)
  have hs : sp = none := by simpa [Addr.add] using World.cell?_spot h0
  subst hs
  refine ⟨b, o, rfl, by simpa [Addr.add] using block_lt_of_cell h0, fun i hi => ?_⟩
  have := hc i (by omega)
  unfold Addr.add at this
  by_cases h0 : i = 0
  · subst h0; simpa using this
  · simpa [h0] using this

/-- A slice of integers that came in: its elements. -/
def IntRow (k : IntKind) (w : World) (a : Option Addr) (len : Nat) (zs : Nat → Int) : Prop :=
  len ≤ 9223372036854775807 ∧ (0 < len → ∃ b o, a = some ⟨b, o, none⟩ ∧ b < w.heap.size ∧ ∀ i, i < len → w.cell? ⟨b, o + i, none⟩ = some (.int k (zs i)) ∧ (Lit.int k (zs i)).wf = true)

theorem intRow_nil (k : IntKind) (w : World) (a : Option Addr) (zs : Nat → Int) : IntRow k w a 0 zs := ⟨by omega, fun h => by omega⟩
theorem intRow_of {k : IntKind} {w : World} {a : Addr} {len cap : Nat} {zs : List Int} (hl : len ≤ cap) (hm : cap ≤ maxLen) (hz : zs.length = cap) (hc : ∀ i, i < zs.length → w.cell? (a.add i) = some (.int k (zs.getD i 0)))
    (hw : ∀ n ∈ zs, (Lit.int k n).wf = true) : IntRow k w (some a) len (fun i => zs.getD i 0) := by
  refine ⟨by unfold maxLen at hm; omega, fun h => ?_⟩
  obtain ⟨b, o, sp⟩ := a
  have h0 := hc 0 (by omega)
  have hs : sp = none := by simpa [Addr.add] using World.cell?_spot h0
  subst hs
  refine ⟨b, o, rfl, by simpa [Addr.add] using block_lt_of_cell h0, fun i hi => ⟨?_, ?_⟩⟩
  · have := hc i (by omega)
    unfold Addr.add at this
    by_cases h0 : i = 0
    · subst h0; simpa using this
    · simpa [h0] using this
  · have hi' : i < zs.length := by omega
    refine hw _ ?_
    simp [List.getD, List.getElem?_eq_getElem hi']
end Go.Proofs.YtacbahmmmndmbaaGreatDoor
