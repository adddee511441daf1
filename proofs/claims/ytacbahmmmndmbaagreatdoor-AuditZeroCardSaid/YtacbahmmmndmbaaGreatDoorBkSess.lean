/- Sessions of which nobody made one: each, All, Len. -/
import Derived.Test.YtacbahmmmndmbaaGreatDoorBkNew
import Derived.RangeFuncBox
import Derived.RangeFuncLeaves
import Derived.RangeFuncNested
import Derived.Shelf.Abstract
import Derived.WalkKit
import Derived.OwnWalkIn
import Derived.TacticsInMore
import Derived.LoopNIn
import Derived.LoopIn
import Derived.Sort.LoopGhostIn
import Derived.BigFrameIn
import Derived.BigGuardPartIn
set_option linter.unusedSimpArgs false
set_option linter.unusedVariables false
namespace Go.Proofs.YtacbahmmmndmbaaGreatDoor
open Go.RowKit Go.Shelf

attribute [local go_sem] Oper.semAt_some
theorem ssCells {W : World} {se : Nat} (h : W.heap[se]? = some (.cells ssNone 158 (0, 0))) :
    W.cell? ⟨se, 1, none⟩ = some (.bool false) ∧ W.cell? ⟨se, 3, none⟩ = some (.bool false) ∧ W.cell? ⟨se, 5, none⟩ = some (.bool false) ∧ W.cell? ⟨se, 7, none⟩ = some (.bool false) ∧ W.cell? ⟨se, 9, none⟩ = some (.bool false) ∧ W.cell? ⟨se, 11, none⟩ = some (.bool false) ∧ W.cell? ⟨se, 13, none⟩ = some (.bool false) ∧ W.cell? ⟨se, 15, none⟩ = some (.bool false) ∧ W.cell? ⟨se, 16, none⟩ = some (.bool true) :=
  ⟨by rw [cell_of_row _ _ _ _ _ _ h]; rfl, by rw [cell_of_row _ _ _ _ _ _ h]; rfl, by rw [cell_of_row _ _ _ _ _ _ h]; rfl, by rw [cell_of_row _ _ _ _ _ _ h]; rfl, by rw [cell_of_row _ _ _ _ _ _ h]; rfl, by rw [cell_of_row _ _ _ _ _ _ h]; rfl, by rw [cell_of_row _ _ _ _ _ _ h]; rfl, by rw [cell_of_row _ _ _ _ _ _ h]; rfl, by rw [cell_of_row _ _ _ _ _ _ h]; rfl⟩
set_option maxRecDepth 100000 in
set_option maxHeartbeats 4000000 in
theorem each_none (n : Nat) (hn : 1 ≤ n) (l Bx se : Nat) (J Jx : List Int → World → Prop) (W : World) (hc : W.cell? ⟨Bx, 0, none⟩ = some (Ptr se)) (hS : W.heap[se]? = some (.cells ssNone 158 (0, 0))) (h0 : J [] W) :
    CallsIn Fence.wide n Tryz.prog 124 #[.func (.yield l) #[] #[], Ptr Bx] W fun e W' => (∃ v, e = .returned v) ∧ ((∃ ys, ys = [] ∧ J ys W') ∨ (∃ pre, True ∧ Jx pre W')) := by
  obtain ⟨c1, c3, c5, c7, c9, c11, c13, c15, c16⟩ := ssCells hS
  replace h0 := Lib.hid h0
  refine callsIn_of_wp Tryz.func124 rfl trivial ?_ rfl
  simp only [Tryz.ntmps124, List.size_toArray, List.length_cons, List.length_nil, Nat.reduceAdd, Nat.reduceSub, Array.replicate_succ, Array.replicate_zero, List.push_toArray, List.append_toArray, List.nil_append, List.cons_append]
  gi_wp2_with (refine wpListIn_skip rfl rfl ?_)
  refine wpIn_loop_rounds 9 ?_
  rw [roundsIn_succ]
  gi_wp2_with (refine wpListIn_skip rfl rfl ?_)
  rw [roundsIn_succ]
  gi_wp2_with (refine wpListIn_skip rfl rfl ?_)
  rw [roundsIn_succ]
  gi_wp2_with (refine wpListIn_skip rfl rfl ?_)
  rw [roundsIn_succ]
  gi_wp2_with (refine wpListIn_skip rfl rfl ?_)
  rw [roundsIn_succ]
  gi_wp2_with (refine wpListIn_skip rfl rfl ?_)
  rw [roundsIn_succ]
  gi_wp2_with (refine wpListIn_skip rfl rfl ?_)
  rw [roundsIn_succ]
  gi_wp2_with (refine wpListIn_skip rfl rfl ?_)
  rw [roundsIn_succ]
  gi_wp2_with (refine wpListIn_skip rfl rfl ?_)
  rw [roundsIn_succ]
  gi_wp2_with (refine wpListIn_skip rfl rfl ?_)
  go_end0
  exact ⟨⟨_, rfl⟩, .inl ⟨[], rfl, h0.out⟩⟩
theorem eachStops_none (n : Nat) (hn : 1 ≤ n) (Bx se : Nat) (w : World) (hBx : Bx < w.heap.size) (hc : w.cell? ⟨Bx, 0, none⟩ = some (Ptr se)) (hS : w.heap[se]? = some (.cells ssNone 158 (0, 0))) :
    SeqStopsK Fence.wide n Tryz.prog 124 #[Ptr Bx] (fun x : Int => #[.int .i64 x, .pointer none]) KeepsWalks (fun ys => ys = []) (fun _ => True) 0 w :=
  fun l J Jx W hW hJ _ hY h0 => each_none n hn l Bx se J Jx W ((hW.cell (p := ⟨Bx, 0, none⟩) hBx).trans hc) ((hW.block se (lt_of_heap hS)).trans hS) h0
theorem eachF_any (se : Nat) (W : World) : Calls Tryz.prog 67 #[Ptr se] W fun e w' => e = .returned (.func (.func 124) #[] #[Ptr W.heap.size]) ∧ w' = W.alloc (.cells #[Ptr se] 30) := by
  go_enter Tryz.func67, Tryz.ntmps67
  go_wp2_with fail
  go_ret
  exact ⟨rfl, rfl⟩
theorem ssnone_no (se : Nat) (W : World) (h : W.cell? ⟨se, 16, none⟩ = some (.bool true)) : Calls Tryz.prog 66 #[Ptr se] W fun e w' => e = .returned (.bool false) ∧ W = w' := by
  go_enter Tryz.func66, Tryz.ntmps66
  go_wp2_with fail
  go_ret
  exact ⟨rfl, rfl⟩
set_option maxRecDepth 100000 in
set_option maxHeartbeats 4000000 in
theorem sallIn_none (se : Nat) (w : World) (hS : w.heap[se]? = some (.cells ssNone 158 (0, 0))) : CallsIn Fence.wide 6 Tryz.prog 75 #[Ptr se] w fun e w' => e = .returned (.slice none 0 0) ∧ Own [] w w' := by
  obtain ⟨_, _, _, _, _, _, _, _, c16⟩ := ssCells hS
  have cE := Lib.hid fun n W => (callsIn_wide (n := n)).2 (eachF_any se W)
  have cN := Lib.hid fun n W (h : World.cell? W ⟨se, 16, none⟩ = some (.bool true)) => (callsIn_wide (n := n)).2 (ssnone_no se W h)
  refine callsIn_of_wp_marks Tryz.func75 rfl trivial ?_ rfl
  simp only [Tryz.ntmps75, List.size_toArray, List.length_cons, List.length_nil, Nat.reduceAdd, Nat.reduceSub, Array.replicate_succ, Array.replicate_zero, List.push_toArray, List.append_toArray, List.nil_append, List.cons_append]
  gi_wp2_with (first
    | (refine ⟨trivial, ?_⟩; gi_at_call 66; (refine (cN.out _ _ c16).mono ?_); rintro e w1 ⟨rfl, rfl⟩)
    | (refine ⟨trivial, ?_⟩; gi_at_call 67; (refine (cE.out _ _).mono ?_); rintro e w1 ⟨rfl, rfl⟩))
  have hO0 : Own [] w ((w.alloc (.cells #[.slice none 0 0] 86)).alloc (.cells #[Ptr se] 30)) := ((Own.refl [] w).alloc _).alloc _
  have hb0 : ((w.alloc (.cells #[.slice none 0 0] 86)).alloc (.cells #[Ptr se] 30)).heap[w.heap.size]? = some (.cells #[.slice none 0 0] 86 (0, 0)) := ((Own.refl [] (w.alloc (.cells #[.slice none 0 0] 86))).alloc _).heap (heap_alloc_new w _) (by simp)
  have hb1 : ((w.alloc (.cells #[.slice none 0 0] 86)).alloc (.cells #[Ptr se] 30)).cell? ⟨w.heap.size + 1, 0, none⟩ = some (Ptr se) := by
    have := heap_alloc2_new w (.cells #[.slice none 0 0] 86) (.cells #[Ptr se] 30)
    rw [cell_of_row _ _ 0 _ _ _ this]; rfl
  have hS0 := hO0.heap hS (by simp)
  have hsz : ((w.alloc (.cells #[.slice none 0 0] 86)).alloc (.cells #[Ptr se] 30)).heap.size = w.heap.size + 2 := by simp
  generalize ((w.alloc (.cells #[.slice none 0 0] 86)).alloc (.cells #[Ptr se] 30)) = W0 at *

  refine wpIn_rangeFunc_ownF rfl (by omega) (gf := 124) (lb := #[Ptr (w.heap.size + 1)]) rfl trivial (enters_of Tryz.func124 (by kernel_rfl) rfl)
    (eachStops_none 5 (by omega) (w.heap.size + 1) se W0 (by omega) hb1 hS0) walksK_t walksK_b (Below.refl _ _) (fun _ => rfl)
    (fun pre W => (pre = [] ∧ W.heap[w.heap.size]? = some (.cells #[.slice none 0 0] 86 (0, 0))) ∧ Below w.heap.size w W)
    (fun _ _ _ => False)
    (OwnFrom.and (Own.from (fun s A B row hs hg hr => ⟨hs.1, (grownBy_keeps_cells hg hr hs.2 rfl).trans hs.2⟩) _) (ownFrom_below (Nat.le_refl _) (by omega)))
    (fun _ _ _ _ _ hs _ _ => hs)
    ⟨⟨rfl, hb0⟩, hO0.below (Nat.le_refl _) (by simp)⟩
    (fun x => { tmps := #[Ptr se, undef, .slice none 0 0, .pointer (some ⟨w.heap.size, 0, none⟩), .int .i64 x, Ptr se, .bool false, Ptr se, .func (.func 124) #[] #[Ptr (w.heap.size + 1)], .int .i64 x, .pointer none, undef, undef, undef, undef, undef], defers := [] }) ?assign ?body ?done ?stop
  case assign =>
    intro l x W K hK
    gi_wp2
    exact hK
  case body =>
    rintro l pre x W _ hlt
    exact absurd hlt (Nat.not_lt_zero _)
  case done =>
    rintro D ys W hD hSy ⟨⟨_, hk⟩, hB⟩ hK
    have hc := cell_of_row W w.heap.size 0 _ _ _ hk
    gi_wp2
    refine ⟨by simp, .inl ⟨_, _, rfl, run_takeDeferred hK, ?_⟩⟩
    exact ⟨_, results_tmp rfl _ _ _, rfl, Own.of_below (hB.trans (belowK_b (w := w) (Nat.le_refl _) W D _ _ (by omega) hK rfl rfl)) (Nat.le_refl _)⟩
  case stop =>
    rintro D c pre W _ _ h _
    exact h.elim
theorem sall_none (se : Nat) (w : World) (hS : w.heap[se]? = some (.cells ssNone 158 (0, 0))) : Calls Tryz.prog 75 #[Ptr se] w fun e w' => e = .returned (.slice none 0 0) ∧ Own [] w w' :=
  (callsIn_wide (n := 6)).1 (sallIn_none se w hS)
end Go.Proofs.YtacbahmmmndmbaaGreatDoor
