/- Package items and its document: Find, Same. -/
import Derived.Test.YtjbmmgclkhigiaaItemsFind
namespace Go.Proofs.Ytjbmmgclkhigiaa
open Go.RowKit

/-- A block that is known whole. -/
theorem blk_cell {w : World} {b : Nat} {cs : Array Value} {T : TypeId} (h : w.heap[b]? = some (.cells cs T (0, 0))) {j : Nat} {v : Value} (hv : cs[j]? = some v) : w.cell? ⟨b, j, none⟩ = some v := (cell_of_row w b j cs _ _ h).trans hv
theorem blk_free {w : World} {b : Nat} {cs : Array Value} {T : TypeId} (h : w.heap[b]? = some (.cells cs T (0, 0))) (j : Nat) : w.frozen? ⟨b, j, none⟩ = false := frozen_of_row w b j cs _ h

theorem blk8 {w : World} {b : Nat} {v0 v1 v2 v3 v4 v5 v6 v7 : Value} {T : TypeId} (h : w.heap[b]? = some (.cells #[v0, v1, v2, v3, v4, v5, v6, v7] T (0, 0))) :
    (w.cell? ⟨b, 0, none⟩ = some v0 ∧ w.cell? ⟨b, 1, none⟩ = some v1 ∧ w.cell? ⟨b, 2, none⟩ = some v2 ∧ w.cell? ⟨b, 3, none⟩ = some v3 ∧ w.cell? ⟨b, 4, none⟩ = some v4 ∧ w.cell? ⟨b, 5, none⟩ = some v5 ∧ w.cell? ⟨b, 6, none⟩ = some v6 ∧ w.cell? ⟨b, 7, none⟩ = some v7) ∧
    (w.frozen? ⟨b, 0, none⟩ = false ∧ w.frozen? ⟨b, 1, none⟩ = false ∧ w.frozen? ⟨b, 2, none⟩ = false ∧ w.frozen? ⟨b, 3, none⟩ = false ∧ w.frozen? ⟨b, 4, none⟩ = false ∧ w.frozen? ⟨b, 5, none⟩ = false ∧ w.frozen? ⟨b, 6, none⟩ = false ∧ w.frozen? ⟨b, 7, none⟩ = false) :=
  ⟨⟨blk_cell h rfl, blk_cell h rfl, blk_cell h rfl, blk_cell h rfl, blk_cell h rfl, blk_cell h rfl, blk_cell h rfl, blk_cell h rfl⟩, blk_free h 0, blk_free h 1, blk_free h 2, blk_free h 3, blk_free h 4, blk_free h 5, blk_free h 6, blk_free h 7⟩
/-- The eight cells of an item, one by one. -/
def At8 (w : World) (b q : Nat) (x : Itm) : Prop := ∀ j v, x.cells[j]? = some v → w.cell? ⟨b, q + j, none⟩ = some v
theorem At8.own {S : List Nat} {w w' : World} {b q : Nat} {x : Itm} (h : At8 w b q x) (ho : Own S w w') (hb : b < w.heap.size) (hS : b ∉ S) : At8 w' b q x := fun j v hj => (ho.cell (p := ⟨b, q + j, none⟩) hb hS).trans (h j v hj)
theorem At8.all {w : World} {b q : Nat} {nm vs : ByteArray} {hs nu : Bool} {al ty vk vn : Int} (h : At8 w b q ⟨nm, hs, al, ty, nu, vk, vn, vs⟩) :
    w.cell? ⟨b, q, none⟩ = some (.string nm) ∧ w.cell? ⟨b, q + 1, none⟩ = some (.bool hs) ∧ w.cell? ⟨b, q + 2, none⟩ = some (.int .u64 al) ∧ w.cell? ⟨b, q + 3, none⟩ = some (.int .u32 ty) ∧ w.cell? ⟨b, q + 4, none⟩ = some (.bool nu) ∧ w.cell? ⟨b, q + 5, none⟩ = some (.int .i64 vk) ∧ w.cell? ⟨b, q + 6, none⟩ = some (.int .u64 vn) ∧ w.cell? ⟨b, q + 7, none⟩ = some (.string vs) :=
  ⟨h 0 _ rfl, h 1 _ rfl, h 2 _ rfl, h 3 _ rfl, h 4 _ rfl, h 5 _ rfl, h 6 _ rfl, h 7 _ rfl⟩
theorem own8 {S : List Nat} {w w' : World} {b : Nat} {v0 v1 v2 v3 v4 v5 v6 v7 : Value} (h : Own S w w') (hb : b ∈ S ∨ w.heap.size ≤ b) : Own S w ((((((((w'.setCell ⟨b, 0, none⟩ v0).setCell ⟨b, 1, none⟩ v1).setCell ⟨b, 2, none⟩ v2).setCell ⟨b, 3, none⟩ v3).setCell ⟨b, 4, none⟩ v4).setCell ⟨b, 5, none⟩ v5).setCell ⟨b, 6, none⟩ v6).setCell ⟨b, 7, none⟩ v7) :=
  (((((((h.setCell hb _).setCell hb _).setCell hb _).setCell hb _).setCell hb _).setCell hb _).setCell hb _).setCell hb _

/-! ### Find -/
end Go.Proofs.Ytjbmmgclkhigiaa
