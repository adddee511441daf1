/- Refusals: refuse, code. -/
import Derived.Test.YtjfmbjgniajagaaGreatDoorItemsOf
import Derived.Test.YtjfmbjgniajagaaGreatDoorAs
namespace Go.Proofs.YtjfmbjgniajagaaGreatDoor
open Go.RowKit

/-- The library's variable errors.errorType, as it is laid. -/
def Errs (w : World) : Prop := w.cell? ⟨0, 0, none⟩ = some (.iface 195 (.agg #[.pointer (some ⟨1, 123, none⟩)]))
theorem Errs.lt {w : World} (h : Errs w) : 0 < w.heap.size := block_lt_of_cell h
theorem Errs.own {S : List Nat} {w w' : World} (h : Errs w) (ho : Own S w w') (hS : 0 ∉ S) : Errs w' := (ho.cell (p := ⟨0, 0, none⟩) h.lt hS).trans h
theorem Errs.nil {w w' : World} (h : Errs w) (ho : Own [] w w') : Errs w' := h.own ho (by simp)

theorem refuse_any (c : Int) (w : World) : Calls Tryz.prog 106 #[.int .i64 c] w fun e w' => ∃ q, e = .returned (.iface 160 (.pointer (some ⟨q, 0, none⟩))) ∧ w'.heap[q]? = some (.cells #[.int .i64 c] 164 (0, 0)) ∧ Own [] w w' := by
  have h1 := heap_alloc_new w (.cells #[.int .i64 c] 164)
  replace h1 := Lib.hid h1
  go_enter Tryz.func106, Tryz.ntmps106
  go_wp2_with fail
  go_ret
  exact ⟨_, rfl, h1.out, (Own.refl _ _).alloc _⟩
theorem code_nil (w : World) : Calls Tryz.prog 82 #[.nilIface] w fun e w' => e = .returned (.int .i64 1) ∧ Own [] w w' := by
  have hO := (Own.refl [] w).alloc (.cells #[.pointer none] 160)
  replace hO := Lib.hid hO
  go_enter Tryz.func82, Tryz.ntmps82
  go_wp2_with fail
  refine (as_nil _ _).mono ?_
  rintro e w2 ⟨rfl, rfl⟩
  go_wp2_with fail
  go_ret
  exact ⟨rfl, hO.out⟩
theorem code_hit (r : Nat) (c : Int) (w : World) (hE : Errs w) (hr : w.heap[r]? = some (.cells #[.int .i64 c] 164 (0, 0))) :
    Calls Tryz.prog 82 #[.iface 160 (.pointer (some ⟨r, 0, none⟩))] w fun e w' => e = .returned (.int .i64 c) ∧ Own [] w w' := by
  have hO := (Own.refl [] w).alloc (.cells #[.pointer none] 160)
  have A := as_hit ⟨r, 0, none⟩ ⟨w.heap.size, 0, none⟩ (.pointer none) _ (hE.nil hO) (by simp) (by simp)
  have hrl := lt_of_heap hr
  replace A := Lib.hid A
  replace hO := Lib.hid hO
  replace hr := Lib.hid hr
  clear hE
  go_enter Tryz.func82, Tryz.ntmps82
  go_wp2_with fail
  refine A.out.mono ?_
  rintro e w2 ⟨rfl, hw⟩
  have c0 : w2.cell? ⟨w.heap.size, 0, none⟩ = some (.pointer (some ⟨r, 0, none⟩)) := by
    rw [hw]
    exact cell_of_row _ _ 0 _ _ _ (heap_setCell_same _ _ _ _ _ _ (((((Own.refl [] (w.alloc (.cells #[.pointer none] 160))).alloc _).alloc _).alloc _).alloc _ |>.heap (heap_alloc_new w _) (by simp)))
  have hO2 : Own [] w w2 := by
    rw [hw]
    exact (((((hO.out.alloc _).alloc _).alloc _).alloc _).setCell (.inr (Nat.le_refl _)) _)
  have c1 : w2.cell? ⟨r, 0, none⟩ = some (.int .i64 c) := blk_cell (hO2.heap hr.out (by simp)) (j := 0) rfl
  replace hO2 := Lib.hid hO2
  clear hw A hO hr
  go_wp2_with fail
  go_ret
  exact ⟨rfl, hO2.out⟩
end Go.Proofs.YtjfmbjgniajagaaGreatDoor
