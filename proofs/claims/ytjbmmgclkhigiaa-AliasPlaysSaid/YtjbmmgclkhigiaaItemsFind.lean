/- Package items and its document: place, Find, Same. -/
import Derived.Test.YtjbmmgclkhigiaaItemsMem
import Derived.Deep.LoopGhost
import Derived.Deep.QuietTactic
import Derived.BigQuiet
namespace Go.Proofs.Ytjbmmgclkhigiaa
open Go.RowKit

/-! ### plain -/
def itIdx (L : List Itm) (n : ByteArray) : Option Nat := L.findIdx? fun x => x.name == n
def itPlace (L : List Itm) (n : ByteArray) : Int := match itIdx L n with | some i => i | none => -1
def itAt (L : List Itm) (i : Nat) : Itm := L.getD i Itm.zero
def itFind (L : List Itm) (n : ByteArray) : Itm × Bool := match itIdx L n with | some i => (itAt L i, true) | none => (Itm.zero, false)
theorem itAt_get {L : List Itm} {i : Nat} (h : i < L.length) : L[i]? = some (itAt L i) := by simp [itAt, List.getD, h]
theorem itIdx_some {L : List Itm} {n : ByteArray} {i : Nat} (hi : i < L.length) (h0 : ∀ j, j < i → ((itAt L j).name == n) = false) (h1 : ((itAt L i).name == n) = true) : itIdx L n = some i := by
  unfold itIdx
  rw [List.findIdx?_eq_some_iff_getElem]
  simp only [itAt, List.getD, List.getElem?_eq_getElem hi, Option.getD_some] at h1
  refine ⟨hi, h1, fun j hj => ?_⟩
  have := h0 j hj
  simp only [itAt, List.getD, List.getElem?_eq_getElem (show j < L.length by omega), Option.getD_some] at this
  simp [this]
theorem itIdx_none {L : List Itm} {n : ByteArray} (h0 : ∀ j, j < L.length → ((itAt L j).name == n) = false) : itIdx L n = none := by
  unfold itIdx
  rw [List.findIdx?_eq_none_iff]
  intro x hx
  obtain ⟨j, hj, rfl⟩ := List.getElem_of_mem hx
  have := h0 j hj
  simpa only [itAt, List.getD, List.getElem?_eq_getElem hj, Option.getD_some] using this
theorem itIdx_lt {L : List Itm} {n : ByteArray} {i : Nat} (h : itIdx L n = some i) : i < L.length ∧ (itAt L i).name = n := by
  obtain ⟨hl, hk, _⟩ := List.findIdx?_eq_some_iff_getElem.1 h
  refine ⟨hl, ?_⟩
  simp only [itAt, List.getD, List.getElem?_eq_getElem hl, Option.getD_some]
  exact LawfulBEq.eq_of_beq hk
theorem itPlace_lt (L : List Itm) (n : ByteArray) : itPlace L n < L.length ∧ -1 ≤ itPlace L n := by
  unfold itPlace
  cases h : itIdx L n with
  | none => simp only; omega
  | some i => have := (itIdx_lt h).1; simp only; omega
/-- The cells of one item. -/
theorem RowsAt.item {w : World} {a : Option Addr} {L : List Itm} (h : ItemsAt w a L) {k : Nat} (hk : k < L.length) : ∃ b o, a = some ⟨b, o, none⟩ ∧ b < w.heap.size ∧ (itAt L k).wf ∧ ∀ j v, (itAt L k).cells[j]? = some v → w.cell? ⟨b, o + k * 8 + j, none⟩ = some v := by
  obtain ⟨b, o, e, hb, hx⟩ := h.2 (by omega)
  exact ⟨b, o, e, hb, hx k _ (itAt_get hk)⟩

/-! ### place -/
end Go.Proofs.Ytjbmmgclkhigiaa
