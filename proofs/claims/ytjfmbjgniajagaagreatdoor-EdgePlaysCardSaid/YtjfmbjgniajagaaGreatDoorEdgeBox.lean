/- Package edge: payloads in boxes; a node's cells. -/
import Derived.Test.YtjfmbjgniajagaaGreatDoorEdgeM
namespace Go.Proofs.YtjfmbjgniajagaaGreatDoor
open Go.RowKit

/-- A payload in a box. -/
def pbox (w : World) (p : Pay) : World := w.alloc (.cells #[.int .u64 p.t, .bool p.h, .int .u64 p.s, .string p.u, .string p.b, .slice p.a p.M.length p.c] 39)
theorem pbox_own (w : World) (p : Pay) : Own [] w (pbox w p) := (Own.refl _ _).alloc _
theorem pbox_cells (w : World) (p : Pay) {S : List Nat} (hS : w.heap.size ∉ S) (W : World) (ho : Own S (pbox w p) W) : W.cell? ⟨w.heap.size, 0, none⟩ = some (.int .u64 p.t) ∧ W.cell? ⟨w.heap.size, 1, none⟩ = some (.bool p.h) ∧ W.cell? ⟨w.heap.size, 2, none⟩ = some (.int .u64 p.s) ∧ W.cell? ⟨w.heap.size, 3, none⟩ = some (.string p.u) ∧ W.cell? ⟨w.heap.size, 4, none⟩ = some (.string p.b) ∧ W.cell? ⟨w.heap.size, 5, none⟩ = some (.slice p.a p.M.length p.c) := by
  have hrow : (pbox w p).heap[w.heap.size]? = some (.cells #[.int .u64 p.t, .bool p.h, .int .u64 p.s, .string p.u, .string p.b, .slice p.a p.M.length p.c] 39 (0, 0)) := heap_alloc_new _ _
  have hr := ho.heap hrow hS
  exact ⟨cell_of_row W _ 0 _ _ _ hr, cell_of_row W _ 1 _ _ _ hr, cell_of_row W _ 2 _ _ _ hr, cell_of_row W _ 3 _ _ _ hr, cell_of_row W _ 4 _ _ _ hr, cell_of_row W _ 5 _ _ _ hr⟩
theorem edge_cells {w : World} {n : Nat} {g nm : ByteArray} {L : EW} {s : EN} (h : EdgeAt w n g nm L s) {S : List Nat} (hS : n ∉ S) (W : World) (ho : Own S w W) :
    (W.cell? ⟨n, 2, none⟩ = some (.bool s.online) ∧ W.cell? ⟨n, 3, none⟩ = some (.int .i64 s.bd) ∧ W.cell? ⟨n, 4, none⟩ = some (.pointer (some ⟨L.rb, 0, none⟩)) ∧ W.cell? ⟨n, 5, none⟩ = some (.bool s.pending) ∧ W.cell? ⟨n, 6, none⟩ = some (.slice L.ia s.items.length L.ic) ∧ W.cell? ⟨n, 7, none⟩ = some (.pointer (some ⟨L.tb, 0, none⟩)) ∧ W.cell? ⟨n, 8, none⟩ = some L.dv) ∧
    (W.frozen? ⟨n, 2, none⟩ = false ∧ W.frozen? ⟨n, 3, none⟩ = false ∧ W.frozen? ⟨n, 5, none⟩ = false ∧ W.frozen? ⟨n, 6, none⟩ = false ∧ W.frozen? ⟨n, 7, none⟩ = false ∧ W.frozen? ⟨n, 8, none⟩ = false) := by
  have hr := ho.heap h.row hS
  exact ⟨⟨cell_of_row W _ 2 _ _ _ hr, cell_of_row W _ 3 _ _ _ hr, cell_of_row W _ 4 _ _ _ hr, cell_of_row W _ 5 _ _ _ hr, cell_of_row W _ 6 _ _ _ hr, cell_of_row W _ 7 _ _ _ hr, cell_of_row W _ 8 _ _ _ hr⟩, frozen_of_row _ _ _ _ _ hr, frozen_of_row _ _ _ _ _ hr, frozen_of_row _ _ _ _ _ hr, frozen_of_row _ _ _ _ _ hr, frozen_of_row _ _ _ _ _ hr, frozen_of_row _ _ _ _ _ hr⟩
theorem feet_n_rb {w : World} {n : Nat} {g nm : ByteArray} {L : EW} {s : EN} (h : EdgeAt w n g nm L s) : n ≠ L.rb ∧ n ≠ L.tb ∧ n ≠ L.tm ∧ L.rb ≠ L.tb ∧ L.rb ≠ L.tm := by
  have := h.apart
  unfold EW.feet at this
  simp only [List.nodup_cons, List.mem_cons, not_or] at this
  exact ⟨this.1.1, this.1.2.1, this.1.2.2.1, this.2.1.1, this.2.1.2.1⟩
end Go.Proofs.YtjfmbjgniajagaaGreatDoor
