/- The payload of no bytes (chapter 10). -/
import Derived.Test.YtecociaolohfmaaGreatDoorSpOf
set_option linter.unusedSimpArgs false
set_option linter.unusedVariables false
namespace Go.Proofs.YtecociaolohfmaaGreatDoor
open Go.RowKit

theorem blk6 {w : World} {b : Nat} {x0 x1 x2 x3 x4 x5 : Value} {T : TypeId} (h : w.heap[b]? = some (.cells #[x0, x1, x2, x3, x4, x5] T (0, 0))) :
    w.cell? ⟨b, 0, none⟩ = some x0 ∧ w.cell? ⟨b, 1, none⟩ = some x1 ∧ w.cell? ⟨b, 2, none⟩ = some x2 ∧ w.cell? ⟨b, 3, none⟩ = some x3 ∧ w.cell? ⟨b, 4, none⟩ = some x4 ∧ w.cell? ⟨b, 5, none⟩ = some x5 :=
  ⟨by rw [cell_of_row _ _ _ _ _ _ h]; rfl, by rw [cell_of_row _ _ _ _ _ _ h]; rfl, by rw [cell_of_row _ _ _ _ _ _ h]; rfl, by rw [cell_of_row _ _ _ _ _ _ h]; rfl, by rw [cell_of_row _ _ _ _ _ _ h]; rfl, by rw [cell_of_row _ _ _ _ _ _ h]; rfl⟩
theorem fz6 {w : World} {b : Nat} {x0 x1 x2 x3 x4 x5 : Value} {T : TypeId} (h : w.heap[b]? = some (.cells #[x0, x1, x2, x3, x4, x5] T (0, 0))) :
    w.frozen? ⟨b, 0, none⟩ = false ∧ w.frozen? ⟨b, 1, none⟩ = false ∧ w.frozen? ⟨b, 2, none⟩ = false ∧ w.frozen? ⟨b, 3, none⟩ = false ∧ w.frozen? ⟨b, 4, none⟩ = false ∧ w.frozen? ⟨b, 5, none⟩ = false ∧ b < w.heap.size :=
  ⟨frozen_of_row w b 0 _ _ h, frozen_of_row w b 1 _ _ h, frozen_of_row w b 2 _ _ h, frozen_of_row w b 3 _ _ h, frozen_of_row w b 4 _ _ h, frozen_of_row w b 5 _ _ h, lt_of_heap h⟩
def set6w (w : World) (b : Nat) (u0 u1 u2 u3 u4 u5 : Value) : World :=
  (((((w.setCell ⟨b, 0, none⟩ u0).setCell ⟨b, 1, none⟩ u1).setCell ⟨b, 2, none⟩ u2).setCell ⟨b, 3, none⟩ u3).setCell ⟨b, 4, none⟩ u4).setCell ⟨b, 5, none⟩ u5
theorem set6 {w : World} {b : Nat} {x0 x1 x2 x3 x4 x5 : Value} {T : TypeId} (h : w.heap[b]? = some (.cells #[x0, x1, x2, x3, x4, x5] T (0, 0))) (u0 u1 u2 u3 u4 u5 : Value) :
    (set6w w b u0 u1 u2 u3 u4 u5).heap[b]? = some (.cells #[u0, u1, u2, u3, u4, u5] T (0, 0)) := by
  have h1 := heap_setCell_same w b 0 _ T u0 h
  have h2 := heap_setCell_same _ b 1 _ T u1 h1
  have h3 := heap_setCell_same _ b 2 _ T u2 h2
  have h4 := heap_setCell_same _ b 3 _ T u3 h3
  have h5 := heap_setCell_same _ b 4 _ T u4 h4
  have h6 := heap_setCell_same _ b 5 _ T u5 h5
  simpa [set6w] using h6
theorem own6 {w w' : World} (h : Own [] w w') {b : Nat} (hb : w.heap.size ≤ b) (u0 u1 u2 u3 u4 u5 : Value) : Own [] w (set6w w' b u0 u1 u2 u3 u4 u5) :=
  (((((h.setCell (.inr hb) _).setCell (.inr hb) _).setCell (.inr hb) _).setCell (.inr hb) _).setCell (.inr hb) _).setCell (.inr hb) _
/-- The payload that holds nothing. -/
def payZero : Value := .agg #[.int .u64 0, .bool false, .int .u64 0, .string ⟨#[]⟩, .string ⟨#[]⟩, .slice none 0 0]

set_option maxRecDepth 100000 in
set_option maxHeartbeats 4000000 in
theorem wire_none (a : Option Addr) (c : Nat) (w : World) : Calls Tryz.prog 100 #[.slice a 0 c] w fun e w' => e = .returned (.tuple #[.slice none 0 0, .int .i64 0]) ∧ Own [] w w' := by
  have hO : Own [] w (w.alloc (.cells #[.slice a 0 c, .int .i64 0, .slice none 0 0, .slice none 0 0] 232)) := (Own.refl _ _).alloc _
  obtain ⟨f0, f1, f2, f3⟩ := blkS (heap_alloc_new w (.cells #[.slice a 0 c, .int .i64 0, .slice none 0 0, .slice none 0 0] 232))
  go_enter Tryz.func100, Tryz.ntmps100
  go_wp2_with fail
  refine wp_loop_rounds 1 ?_
  rw [rounds_succ]
  go_wp2_with fail
  go_ret2
  exact ⟨rfl, hO⟩
set_option maxRecDepth 100000 in
set_option maxHeartbeats 4000000 in
theorem pick_none (f : Value) (w : World) : Calls Tryz.prog 136 #[.slice none 0 0, f] w fun e w' => e = .returned (.slice none 0 0) ∧ w = w' := by
  go_enter Tryz.func136, Tryz.ntmps136
  go_wp2_with fail
  refine wp_loop_rounds 1 ?_
  rw [rounds_succ]
  go_wp2_with fail
  go_ret
  exact ⟨rfl, rfl⟩
set_option maxRecDepth 100000 in
set_option maxHeartbeats 4000000 in
theorem wall_none (n : Int) (w : World) : Calls Tryz.prog 102 #[.slice none 0 0, .int .i64 n] w fun e w' => e = .returned (.slice none 0 0) ∧ Own [] w w' := by
  have hO : Own [] w (w.alloc (.cells #[.int .i64 n] 3)) := (Own.refl _ _).alloc _
  have cP := Lib.hid (fun f W => pick_none f W)
  go_enter Tryz.func102, Tryz.ntmps102
  go_wp2_with (go_at_call 136; ((with_reducible refine (cP.out _ _).mono ?_); rintro e w2 ⟨rfl, rfl⟩))
  go_ret
  exact ⟨rfl, hO⟩
set_option maxRecDepth 100000 in
set_option maxHeartbeats 4000000 in
theorem plain_none (w : World) : Calls Tryz.prog 101 #[.slice none 0 0] w fun e w' => e = .returned (.tuple #[payZero, .int .i64 0]) ∧ Own [] w w' := by
  go_enter Tryz.func101, Tryz.ntmps101
  go_wp2_with fail
  refine wp_loop_rounds 1 ?_
  rw [rounds_succ]
  go_wp2_with fail
  obtain ⟨g0, g1, g2, g3, g4, g5⟩ := blk6 (((Own.refl [] (w.alloc (.cells #[.int .u64 0, .bool false, .int .u64 0, .string ⟨#[]⟩, .string ⟨#[]⟩, .slice none 0 0] 127))).alloc (.cells #[.int .u64 0, .bool false, .int .u64 0, .string ⟨#[]⟩, .string ⟨#[]⟩, .slice none 0 0] 127)).heap (heap_alloc_new w _) (by simp))
  refine bodyPost_ret (v := .tuple #[payZero, .int .i64 0]) (by simp [results, Tryz.results101, go_sem, g0, g1, g2, g3, g4, g5]; try rfl) rfl ⟨rfl, ((Own.refl [] w).alloc _).alloc _⟩
set_option maxRecDepth 100000 in
set_option maxHeartbeats 4000000 in
theorem pay_none (a : Option Addr) (c : Nat) (w : World) : Calls Tryz.prog 61 #[.slice a 0 c] w fun e w' => e = .returned (.tuple #[payZero, .int .i64 0]) ∧ Own [] w w' := by
  have hO1 : Own [] w (w.alloc (.cells #[.int .u64 0, .bool false, .int .u64 0, .string ⟨#[]⟩, .string ⟨#[]⟩, .slice none 0 0] 127)) := (Own.refl _ _).alloc _
  have hb := heap_alloc_new w (.cells #[.int .u64 0, .bool false, .int .u64 0, .string ⟨#[]⟩, .string ⟨#[]⟩, .slice none 0 0] 127)
  have cW := Lib.hid (wire_none a c (w.alloc (.cells #[.int .u64 0, .bool false, .int .u64 0, .string ⟨#[]⟩, .string ⟨#[]⟩, .slice none 0 0] 127)))
  have cP := Lib.hid plain_none
  have cA := Lib.hid (wall_none 2)
  replace hO1 := Lib.hid hO1
  replace hb := Lib.hid hb
  go_enter Tryz.func61, Tryz.ntmps61
  go_wp2_with fail
  refine cW.out.mono ?_
  rintro e w1 ⟨rfl, hO⟩
  replace hO1 : Hid (Own [] w w1) := Lib.hid (hO1.out.trans hO)
  replace hb := Lib.hid (hO.heap hb.out (by simp))
  clear hO cW
  go_wp2_with fail
  refine (cP.out w1).mono ?_
  rintro e w2 ⟨rfl, hO⟩
  unfold payZero
  replace hO1 : Hid (Own [] w w2) := Lib.hid (hO1.out.trans hO)
  replace hb := Lib.hid (hO.heap hb.out (by simp))
  clear hO cP
  have hb3 := heap_alloc_new w2 (.cells #[.int .u64 0, .bool false, .int .u64 0, .string ⟨#[]⟩, .string ⟨#[]⟩, .slice none 0 0] 127)
  have hb0 := ((Own.refl [] w2).alloc (.cells #[.int .u64 0, .bool false, .int .u64 0, .string ⟨#[]⟩, .string ⟨#[]⟩, .slice none 0 0] 127)).heap hb.out (by simp)
  have hO3 : Hid (Own [] w (w2.alloc (.cells #[.int .u64 0, .bool false, .int .u64 0, .string ⟨#[]⟩, .string ⟨#[]⟩, .slice none 0 0] 127))) := Lib.hid (hO1.out.alloc _)
  go_wp2_with fail
  refine (cA.out _).mono ?_
  rintro e w3 ⟨rfl, hO⟩
  have hO4 : Own [] w w3 := hO3.out.trans hO
  have hc3 := hO.heap hb3 (by simp)
  have hc0 := hO.heap hb0 (by simp)
  clear hO hO3 hb3 hb0 hb hO1 cA
  obtain ⟨f0, f1, f2, f3, f4, f5⟩ := blk6 hc3
  obtain ⟨y0, y1, y2, y3, y4, y5⟩ := blk6 hc0
  obtain ⟨z0, z1, z2, z3, z4, z5, zl⟩ := fz6 hc0
  have hr1 := set6 hc0 (.int .u64 0) (.bool false) (.int .u64 0) (.string ⟨#[]⟩) (.string ⟨#[]⟩) (.slice none 0 0)
  have ho1 := own6 hO4 (Nat.le_refl _) (.int .u64 0) (.bool false) (.int .u64 0) (.string ⟨#[]⟩) (.string ⟨#[]⟩) (.slice none 0 0)
  clear hc0 hc3 hO4
  go_wp2_with fail
  refine wp_loop_rounds 1 ?_
  rw [rounds_succ]
  go_wp2_with fail
  obtain ⟨g0, g1, g2, g3, g4, g5⟩ := blk6 hr1
  unfold set6w at g0 g1 g2 g3 g4 g5
  refine bodyPost_ret (v := .tuple #[payZero, .int .i64 0]) (by simp [results, Tryz.results61, go_sem, g0, g1, g2, g3, g4, g5]; try rfl) rfl ⟨rfl, ho1⟩
end Go.Proofs.YtecociaolohfmaaGreatDoor
