/- SparkZero: the walk. -/
import Derived.Test.YtecociaolohfmaaGreatDoorSpZero
set_option linter.unusedSimpArgs false
set_option linter.unusedVariables false
namespace Go.Proofs.YtecociaolohfmaaGreatDoor
open Go.RowKit

set_option maxRecDepth 100000 in
set_option maxHeartbeats 4000000 in
theorem stake_nil (a q : Int) (t x : ByteArray) (r : Bool) (W : World) : Calls Tryz.prog 4 #[.pointer none, .int .i64 a, .agg #[.string t, .string x, .int .i64 q, .bool r]] W fun e w' =>
    e = .returned (.agg #[.int .i64 0, .string ⟨#[]⟩, .string ⟨#[]⟩, .bool false]) ∧ Own [] W w' := by
  have cN := Lib.hid fun W => snone_nil W
  have hA := (((Own.refl [] W).alloc (.cells #[.string t, .string x, .int .i64 q, .bool r] 23)).alloc (.cells #[.int .i64 0, .string ⟨#[]⟩, .string ⟨#[]⟩, .bool false] 35))
  have hq1 := heap_alloc2_new W (.cells #[.string t, .string x, .int .i64 q, .bool r] 23) (.cells #[.int .i64 0, .string ⟨#[]⟩, .string ⟨#[]⟩, .bool false] 35)
  obtain ⟨g0, g1, g2, g3⟩ := blkS hq1
  obtain ⟨z0, z1, z2, z3, _⟩ := fzS hq1
  go_enter Tryz.func4, Tryz.ntmps4
  go_wp2_with (go_at_call 11; ((with_reducible refine (cN.out _).mono ?_); rintro e w2 ⟨rfl, rfl⟩))
  refine bodyPost_ret (v := .agg #[.int .i64 0, .string ⟨#[]⟩, .string ⟨#[]⟩, .bool false]) (by simp [results, Tryz.results4, go_sem, g0, g1, g2, g3]; try rfl) rfl ⟨rfl, hA⟩
set_option maxRecDepth 100000 in
set_option maxHeartbeats 4000000 in
theorem stake_zero (p : Nat) (a q : Int) (t x : ByteArray) (r : Bool) (W : World) (h : W.cell? ⟨p, 0, none⟩ = some (.map none)) : Calls Tryz.prog 4 #[Ptr p, .int .i64 a, .agg #[.string t, .string x, .int .i64 q, .bool r]] W fun e w' =>
    e = .returned (.agg #[.int .i64 0, .string ⟨#[]⟩, .string ⟨#[]⟩, .bool false]) ∧ Own [] W w' := by
  have hA := (((Own.refl [] W).alloc (.cells #[.string t, .string x, .int .i64 q, .bool r] 23)).alloc (.cells #[.int .i64 0, .string ⟨#[]⟩, .string ⟨#[]⟩, .bool false] 35))
  have cN := Lib.hid (snone_zero p _ ((hA.cell (block_lt_of_cell h) (by simp)).trans h))
  have hq1 := heap_alloc2_new W (.cells #[.string t, .string x, .int .i64 q, .bool r] 23) (.cells #[.int .i64 0, .string ⟨#[]⟩, .string ⟨#[]⟩, .bool false] 35)
  obtain ⟨g0, g1, g2, g3⟩ := blkS hq1
  obtain ⟨z0, z1, z2, z3, _⟩ := fzS hq1
  go_enter Tryz.func4, Tryz.ntmps4
  go_wp2_with (go_at_call 11; ((with_reducible refine cN.out.mono ?_); rintro e w2 ⟨rfl, rfl⟩))
  refine bodyPost_ret (v := .agg #[.int .i64 0, .string ⟨#[]⟩, .string ⟨#[]⟩, .bool false]) (by simp [results, Tryz.results4, go_sem, g0, g1, g2, g3]; try rfl) rfl ⟨rfl, hA⟩
set_option maxRecDepth 100000 in
set_option maxHeartbeats 8000000 in
theorem sparkZero_walk (at' : Int) (x : SMsg) (w : World) (_h : (Lit.int .i64 at').wf = true) (hT : Tabs37 w) :
    Calls Tryz.prog 3 #[.int .i64 at', x.val] w fun e w' => e = .returned (.bool true) ∧ Below w.heap.size w w' := by
  clear _h
  obtain ⟨x1, x2, x3, x4⟩ := x
  have hq := fun w r => run_eql_map_nil (P := Tryz.prog) w 25 60 51 r Tryz.underlying25
  unfold SMsg.val
  have AW := Lib.hid fun W (ho : Own [] w W) => awake37 W (hT.own ho)
  clear hT
  go_enter Tryz.func3, Tryz.ntmps3
  have cT := Lib.hid fun a q t x r W => stake_nil a q t x r W
  have cZ := Lib.hid fun p a q t x r W (h : World.cell? W ⟨p, 0, none⟩ = some (.map none)) => stake_zero p a q t x r W h
  go_wp2_with fail
  have hA := ((((Own.refl [] w).alloc (.cells #[.string x1, .string x2, .int .i64 x3, .bool x4] 23)).alloc (.cells #[.map none, .pointer none, .pointer none, .pointer none, .int .i64 0] 30)).alloc (.cells #[.string ⟨#[35]⟩, .int .i64 0] 32))
  have hB1 := (((Own.refl [] (w.alloc (.cells #[.string x1, .string x2, .int .i64 x3, .bool x4] 23))).alloc (.cells #[.map none, .pointer none, .pointer none, .pointer none, .int .i64 0] 30)).alloc (.cells #[.string ⟨#[35]⟩, .int .i64 0] 32)).heap (heap_alloc_new w _) (by simp)
  have hB2 := ((Own.refl [] ((w.alloc (.cells #[.string x1, .string x2, .int .i64 x3, .bool x4] 23)).alloc (.cells #[.map none, .pointer none, .pointer none, .pointer none, .int .i64 0] 30))).alloc (.cells #[.string ⟨#[35]⟩, .int .i64 0] 32)).heap (heap_alloc2_new w _ _) (by simp)
  generalize (((w.alloc (.cells #[.string x1, .string x2, .int .i64 x3, .bool x4] 23)).alloc (.cells #[.map none, .pointer none, .pointer none, .pointer none, .int .i64 0] 30)).alloc (.cells #[.string ⟨#[35]⟩, .int .i64 0] 32)) = W0 at *
  have hC : Hid (∀ W, Own [] W0 W → (W.cell? ⟨w.heap.size, 0, none⟩ = some (.string x1) ∧ W.cell? ⟨w.heap.size, 1, none⟩ = some (.string x2) ∧ W.cell? ⟨w.heap.size, 2, none⟩ = some (.int .i64 x3) ∧ W.cell? ⟨w.heap.size, 3, none⟩ = some (.bool x4)) ∧ W.cell? ⟨w.heap.size + 1, 0, none⟩ = some (.map none)) := Lib.hid fun W ho =>
    ⟨blkS (ho.heap hB1 (by simp)), by rw [cell_of_row _ _ _ _ _ _ (ho.heap hB2 (by simp))]; rfl⟩
  have AW0 := Lib.hid fun W (ho : Own [] W0 W) => AW.out W (hA.trans ho)
  replace hA := Lib.hid hA
  clear hB1 hB2 AW
  generalize w.heap.size + 1 = zb at *
  have hAb : Hid (∀ W, Own [] W0 W → Below w.heap.size w W) := Lib.hid fun W ho => (hA.out.trans ho).below (Nat.le_refl _) (by simp)
  generalize hmb : w.heap.size = mb at *
  replace hmb := Lib.hid hmb
  refine (cT.out _ _ _ _ _ _).mono ?_
  rintro e w2 ⟨rfl, hO2⟩
  obtain ⟨⟨m0, m1, m2, m3⟩, y0⟩ := hC.out w2 hO2
  have cZ2 := Lib.hid (cZ.out zb at' x3 x1 x2 x4 w2 y0)
  replace hO2 := Lib.hid hO2
  clear cT cZ
  go_wp2_with fail
  refine cZ2.out.mono ?_
  rintro e w3 ⟨rfl, hO3⟩
  have hO23 := hO2.out.trans hO3
  obtain ⟨⟨n0, n1, n2, n3⟩, u0⟩ := hC.out w3 hO23
  have AW3 := Lib.hid (AW0.out w3 hO23)
  replace hO23 := Lib.hid hO23
  clear m0 m1 m2 m3 y0 cZ2 hO3 hO2 hC AW0
  go_wp2_with (first | (go_at_call 10; (with_reducible refine AW3.out.mono ?_); rintro e w4 ⟨rfl, hO4⟩; replace hO4 := Lib.hid hO4) | go_in)
  go_ret
  exact ⟨rfl, by rw [hmb.out]; exact hAb.out _ (hO23.out.trans hO4.out)⟩
end Go.Proofs.YtecociaolohfmaaGreatDoor
