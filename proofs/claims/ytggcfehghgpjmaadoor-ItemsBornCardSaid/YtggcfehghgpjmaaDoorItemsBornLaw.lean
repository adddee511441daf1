/- ItemsBorn: any metrics as items, or why not. -/
import Derived.Test.YtggcfehghgpjmaaDoorItemsAwake
namespace Go.Proofs.YtggcfehghgpjmaaDoor
open Go.RowKit
attribute [local go_sem ↓] Go.wp_at_zero Go.wp_at_succ

set_option maxRecDepth 100000 in
set_option maxHeartbeats 16000000 in
theorem itemsBorn_walk (a0 : Option Addr) (L0 : List Met) (c0 : Nat) (m : Met) (name : ByteArray) (w : World) (h0 : MetsAt w a0 L0) (_hn : name.size ≤ 140737488351232) (hE : Errs w) :
    Calls Tryd.prog 3 #[.slice a0 L0.length c0, m.val, .string name] w fun e w' => e = .returned (.bool true) ∧ Below w.heap.size w w' := by
  have hqm := fun W => run_eql_itm (ofM m) (ofM m) W
  rw [itEq_refl] at hqm
  have hF1 := of_any m
  have hF2 := rof_any m
  unfold OfPost at hF1 hF2
  generalize ofM m = im at hqm hF1 hF2
  obtain ⟨nm', hs', al', ty', nu', vk', vn', vs'⟩ := im
  obtain ⟨nm, hs, al, ti, ty, hi_, tr, nu, ⟨x1, y1, z1⟩, ⟨x2, y2, z2⟩, vk, vn, vs, ⟨x3, y3, z3⟩, ⟨x4, y4, z4⟩⟩ := m
  unfold Met.val Met.cells at hF1 hF2 ⊢
  simp only at hF1 hF2 ⊢
  unfold Itm.val Itm.cells at hqm hF1 hF2
  simp only at hqm hF1 hF2
  have hB0 := heap_alloc_new w (.cells #[.string nm, .bool hs, .int .u64 al, .int .u64 ti, .int .u32 ty, .bool hi_, .bool tr, .bool nu, .slice x1 y1 z1, .slice x2 y2 z2, .int .i64 vk, .int .u64 vn, .string vs, .slice x3 y3 z3, .slice x4 y4 z4] 32)
  have hO0 := (Own.refl [] w).alloc (.cells #[.string nm, .bool hs, .int .u64 al, .int .u64 ti, .int .u32 ty, .bool hi_, .bool tr, .bool nu, .slice x1 y1 z1, .slice x2 y2 z2, .int .i64 vk, .int .u64 vn, .string vs, .slice x3 y3 z3, .slice x4 y4 z4] 32)
  have B1 := bornp_any a0 L0 c0 _ (h0.nil' hO0) (hE.nil hO0)
  have B2 := fun w1 (hO : Own [] w w1) => rborn_any a0 L0 c0 w1 (h0.nil' hO)
  have hle := bornL_le L0
  have hl0 := h0.1
  generalize bornL L0 = r at B1 B2 hle
  obtain ⟨rc, L⟩ := r
  have G1 := fun a c w1 (h : ItemsAt w1 a L) => itFind_any a L c name w1 h
  have G2 := fun a c w1 (h : ItemsAt w1 a L) => itRfind_any a L c name w1 h
  have hqf := fun W => run_eql_itm (itFind L name).1 (itFind L name).1 W
  rw [itEq_refl] at hqf
  unfold FindPost at G1 G2
  generalize itFind L name = f at G1 G2 hqf
  obtain ⟨⟨fnm, fhs, fal, fty, fnu, fvk, fvn, fvs⟩, fk⟩ := f
  unfold Itm.val Itm.cells at G1 G2 hqf
  simp only at G1 G2 hqf
  unfold Born2Post at B1 B2
  simp only at B1 B2 hle
  replace B1 := Lib.hid B1
  replace B2 := Lib.hid B2
  replace G1 := Lib.hid G1
  replace G2 := Lib.hid G2
  replace hF1 := Lib.hid hF1
  replace hF2 := Lib.hid hF2
  replace hB0 := Lib.hid hB0
  replace hO0 := Lib.hid hO0
  replace hE := Lib.hid hE
  replace h0 := Lib.hid h0
  go_enter Tryd.func3, Tryd.ntmps3
  go_wp2_with fail
  refine B1.out.mono ?_
  rintro e w1 ⟨a1, c1, rfl, hR1, hO1⟩
  have hB1 := hO1.heap hB0.out (by simp)
  have hO2 := hO0.out.trans hO1
  replace hR1 := Lib.hid hR1
  replace hB1 := Lib.hid hB1
  replace hO2 := Lib.hid hO2
  clear hO1 B1 hB0
  go_wp2_with fail
  refine (B2.out _ hO2.out).mono ?_
  rintro e w2 ⟨a2, c2, rfl, hR2, hO3⟩
  have hR12 := hR1.out.nil' hO3
  have hB2 := hO3.heap hB1.out (by simp)
  replace hO3 := hO2.out.trans hO3
  replace hR2 := Lib.hid hR2
  replace hR12 := Lib.hid hR12
  replace hB2 := Lib.hid hB2
  replace hO3 := Lib.hid hO3
  clear hR1 hB1 hO2 B2
  go_wp2_with fail
  refine (G1.out _ _ _ (hR12.out.at_ (by omega))).mono ?_
  rintro e w3 ⟨rfl, hO4⟩
  have hA4 := hO4.alloc (.cells #[.string fnm, .bool fhs, .int .u64 fal, .int .u32 fty, .bool fnu, .int .i64 fvk, .int .u64 fvn, .string fvs] 37)
  have hX4 := heap_alloc_new w3 (.cells #[.string fnm, .bool fhs, .int .u64 fal, .int .u32 fty, .bool fnu, .int .i64 fvk, .int .u64 fvn, .string fvs] 37)
  have hR13 := hR12.out.nil' hA4
  have hR23 := hR2.out.nil' hA4
  have hB3 := hA4.heap hB2.out (by simp)
  have hO5 := hO3.out.trans hA4
  replace hX4 := Lib.hid hX4
  replace hR13 := Lib.hid hR13
  replace hR23 := Lib.hid hR23
  replace hB3 := Lib.hid hB3
  replace hO5 := Lib.hid hO5
  clear hR12 hR2 hB2 hO4 hA4 hO3
  go_wp2_with fail
  refine (G2.out _ _ _ (hR23.out.at_ (by omega))).mono ?_
  rintro e w4 ⟨rfl, hO6⟩
  have hA6 := hO6.alloc (.cells #[.string fnm, .bool fhs, .int .u64 fal, .int .u32 fty, .bool fnu, .int .i64 fvk, .int .u64 fvn, .string fvs] 37)
  have hX6 := heap_alloc_new w4 (.cells #[.string fnm, .bool fhs, .int .u64 fal, .int .u32 fty, .bool fnu, .int .i64 fvk, .int .u64 fvn, .string fvs] 37)
  have hX5 := hA6.heap hX4.out (by simp)
  have hR14 := hR13.out.nil' hA6
  have hR24 := hR23.out.nil' hA6
  have hB4 := hA6.heap hB3.out (by simp)
  have hO7 := hO5.out.trans hA6
  clear hO6 hA6 hO5 hB3 hX4 hR13 hR23
  generalize hW : w4.alloc (.cells #[.string fnm, .bool fhs, .int .u64 fal, .int .u32 fty, .bool fnu, .int .i64 fvk, .int .u64 fvn, .string fvs] 37) = W at hX6 hX5 hR14 hR24 hB4 hO7
  have hS : ∀ w', Own [] W w' → (w'.cell? ⟨w3.heap.size, 0, none⟩ = some (.string fnm) ∧ w'.cell? ⟨w3.heap.size, 1, none⟩ = some (.bool fhs) ∧ w'.cell? ⟨w3.heap.size, 2, none⟩ = some (.int .u64 fal) ∧ w'.cell? ⟨w3.heap.size, 3, none⟩ = some (.int .u32 fty) ∧ w'.cell? ⟨w3.heap.size, 4, none⟩ = some (.bool fnu) ∧ w'.cell? ⟨w3.heap.size, 5, none⟩ = some (.int .i64 fvk) ∧ w'.cell? ⟨w3.heap.size, 6, none⟩ = some (.int .u64 fvn) ∧ w'.cell? ⟨w3.heap.size, 7, none⟩ = some (.string fvs) ∧
      w'.cell? ⟨w4.heap.size, 0, none⟩ = some (.string fnm) ∧ w'.cell? ⟨w4.heap.size, 1, none⟩ = some (.bool fhs) ∧ w'.cell? ⟨w4.heap.size, 2, none⟩ = some (.int .u64 fal) ∧ w'.cell? ⟨w4.heap.size, 3, none⟩ = some (.int .u32 fty) ∧ w'.cell? ⟨w4.heap.size, 4, none⟩ = some (.bool fnu) ∧ w'.cell? ⟨w4.heap.size, 5, none⟩ = some (.int .i64 fvk) ∧ w'.cell? ⟨w4.heap.size, 6, none⟩ = some (.int .u64 fvn) ∧ w'.cell? ⟨w4.heap.size, 7, none⟩ = some (.string fvs) ∧
      w'.cell? ⟨w.heap.size, 0, none⟩ = some (.string nm) ∧ w'.cell? ⟨w.heap.size, 1, none⟩ = some (.bool hs) ∧ w'.cell? ⟨w.heap.size, 2, none⟩ = some (.int .u64 al) ∧ w'.cell? ⟨w.heap.size, 3, none⟩ = some (.int .u64 ti) ∧ w'.cell? ⟨w.heap.size, 4, none⟩ = some (.int .u32 ty) ∧ w'.cell? ⟨w.heap.size, 5, none⟩ = some (.bool hi_) ∧ w'.cell? ⟨w.heap.size, 6, none⟩ = some (.bool tr) ∧ w'.cell? ⟨w.heap.size, 7, none⟩ = some (.bool nu) ∧ w'.cell? ⟨w.heap.size, 8, none⟩ = some (.slice x1 y1 z1) ∧ w'.cell? ⟨w.heap.size, 9, none⟩ = some (.slice x2 y2 z2) ∧ w'.cell? ⟨w.heap.size, 10, none⟩ = some (.int .i64 vk) ∧ w'.cell? ⟨w.heap.size, 11, none⟩ = some (.int .u64 vn) ∧ w'.cell? ⟨w.heap.size, 12, none⟩ = some (.string vs) ∧ w'.cell? ⟨w.heap.size, 13, none⟩ = some (.slice x3 y3 z3) ∧ w'.cell? ⟨w.heap.size, 14, none⟩ = some (.slice x4 y4 z4)) := by
    intro w' ho
    have k1 := ho.heap hX5 (by simp)
    have k2 := ho.heap hX6 (by simp)
    have k3 := ho.heap hB4 (by simp)
    exact ⟨blk_cell k1 (j := 0) rfl, blk_cell k1 (j := 1) rfl, blk_cell k1 (j := 2) rfl, blk_cell k1 (j := 3) rfl, blk_cell k1 (j := 4) rfl, blk_cell k1 (j := 5) rfl, blk_cell k1 (j := 6) rfl, blk_cell k1 (j := 7) rfl,
      blk_cell k2 (j := 0) rfl, blk_cell k2 (j := 1) rfl, blk_cell k2 (j := 2) rfl, blk_cell k2 (j := 3) rfl, blk_cell k2 (j := 4) rfl, blk_cell k2 (j := 5) rfl, blk_cell k2 (j := 6) rfl, blk_cell k2 (j := 7) rfl,
      blk_cell k3 (j := 0) rfl, blk_cell k3 (j := 1) rfl, blk_cell k3 (j := 2) rfl, blk_cell k3 (j := 3) rfl, blk_cell k3 (j := 4) rfl, blk_cell k3 (j := 5) rfl, blk_cell k3 (j := 6) rfl, blk_cell k3 (j := 7) rfl, blk_cell k3 (j := 8) rfl, blk_cell k3 (j := 9) rfl, blk_cell k3 (j := 10) rfl, blk_cell k3 (j := 11) rfl, blk_cell k3 (j := 12) rfl, blk_cell k3 (j := 13) rfl, blk_cell k3 (j := 14) rfl⟩
  have SM := fun w1 (ho : Own [] W w1) => rsame_any a1 L c1 a2 L c2 w1 ((hR14.nil' ho).at_ (by omega)) ((hR24.nil' ho).at_ (by omega))
  rw [itSame_refl] at SM
  have AW := fun w1 (ho : Own [] W w1) => awake_any w1 (hE.out.nil (hO7.trans ho))
  replace hS := Lib.hid hS
  replace SM := Lib.hid SM
  replace AW := Lib.hid AW
  replace hO7 := Lib.hid hO7
  clear hX5 hX6 hR14 hR24 hB4 hE h0 G1 G2 hO0
  go_wp2_with fail
  replace hW := Lib.hid hW
  go_region_held3 (fun w' => w'.cell? ⟨w3.heap.size, 0, none⟩ = some (.string fnm) ∧ w'.cell? ⟨w3.heap.size, 1, none⟩ = some (.bool fhs) ∧ w'.cell? ⟨w3.heap.size, 2, none⟩ = some (.int .u64 fal) ∧ w'.cell? ⟨w3.heap.size, 3, none⟩ = some (.int .u32 fty) ∧ w'.cell? ⟨w3.heap.size, 4, none⟩ = some (.bool fnu) ∧ w'.cell? ⟨w3.heap.size, 5, none⟩ = some (.int .i64 fvk) ∧ w'.cell? ⟨w3.heap.size, 6, none⟩ = some (.int .u64 fvn) ∧ w'.cell? ⟨w3.heap.size, 7, none⟩ = some (.string fvs) ∧
      w'.cell? ⟨w4.heap.size, 0, none⟩ = some (.string fnm) ∧ w'.cell? ⟨w4.heap.size, 1, none⟩ = some (.bool fhs) ∧ w'.cell? ⟨w4.heap.size, 2, none⟩ = some (.int .u64 fal) ∧ w'.cell? ⟨w4.heap.size, 3, none⟩ = some (.int .u32 fty) ∧ w'.cell? ⟨w4.heap.size, 4, none⟩ = some (.bool fnu) ∧ w'.cell? ⟨w4.heap.size, 5, none⟩ = some (.int .i64 fvk) ∧ w'.cell? ⟨w4.heap.size, 6, none⟩ = some (.int .u64 fvn) ∧ w'.cell? ⟨w4.heap.size, 7, none⟩ = some (.string fvs) ∧
      w'.cell? ⟨w.heap.size, 0, none⟩ = some (.string nm) ∧ w'.cell? ⟨w.heap.size, 1, none⟩ = some (.bool hs) ∧ w'.cell? ⟨w.heap.size, 2, none⟩ = some (.int .u64 al) ∧ w'.cell? ⟨w.heap.size, 3, none⟩ = some (.int .u64 ti) ∧ w'.cell? ⟨w.heap.size, 4, none⟩ = some (.int .u32 ty) ∧ w'.cell? ⟨w.heap.size, 5, none⟩ = some (.bool hi_) ∧ w'.cell? ⟨w.heap.size, 6, none⟩ = some (.bool tr) ∧ w'.cell? ⟨w.heap.size, 7, none⟩ = some (.bool nu) ∧ w'.cell? ⟨w.heap.size, 8, none⟩ = some (.slice x1 y1 z1) ∧ w'.cell? ⟨w.heap.size, 9, none⟩ = some (.slice x2 y2 z2) ∧ w'.cell? ⟨w.heap.size, 10, none⟩ = some (.int .i64 vk) ∧ w'.cell? ⟨w.heap.size, 11, none⟩ = some (.int .u64 vn) ∧ w'.cell? ⟨w.heap.size, 12, none⟩ = some (.string vs) ∧ w'.cell? ⟨w.heap.size, 13, none⟩ = some (.slice x3 y3 z3) ∧ w'.cell? ⟨w.heap.size, 14, none⟩ = some (.slice x4 y4 z4))
    (first | exact hS.out _ ((Own.refl [] W).drew) | exact hS.out _ O1.out | exact hS.out _ O2.out | exact hS.out _ O3.out | exact hS.out _ O4.out | go_keep)
    ((first
      | (go_at_call 11; refine (SM.out _ ((Own.refl [] W).drew)).mono ?_; rintro e v1 ⟨rfl, hp1⟩; have O1 := Lib.hid ((Own.refl [] W).drew.trans hp1); clear hp1)
      | (go_at_call 12; refine (hF1.out _).mono ?_; rintro e v2 ⟨rfl, hp2⟩; have O2 := Lib.hid (O1.out.trans hp2); clear hp2)
      | (go_at_call 13; refine (hF2.out _).mono ?_; rintro e v3 ⟨rfl, hp3⟩; have O3 := Lib.hid (O2.out.trans hp3); clear hp3)
      | (go_at_call 14; refine (AW.out _ O3.out).mono ?_; rintro e v4 ⟨rfl, hp4⟩; have O4 := Lib.hid (O3.out.trans hp4); clear hp4)))
  go_wp2_with fail
  go_ret
  exact ⟨rfl, (hO7.out.trans O4.out).below (Nat.le_refl _) (by simp)⟩
end Go.Proofs.YtggcfehghgpjmaaDoor
