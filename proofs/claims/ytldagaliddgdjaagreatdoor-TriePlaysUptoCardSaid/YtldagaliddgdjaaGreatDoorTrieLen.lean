/- Package trie: Len. -/
import Derived.Test.YtldagaliddgdjaaGreatDoorTrieDrop
namespace Go.Proofs.YtldagaliddgdjaaGreatDoor
open Go.RowKit Go.Lib Go.Shelf

theorem ix8 (a0 a1 a2 a3 a4 a5 a6 a7 : Int) (W : World) :
    (Instr.index 46 (.agg #[.int .i64 a0, .int .i64 a1, .int .i64 a2, .int .i64 a3, .int .i64 a4, .int .i64 a5, .int .i64 a6, .int .i64 a7]) (.int .i64 0)).run Tryz.prog W = .ok (.int .i64 a0) W ∧
    (Instr.index 46 (.agg #[.int .i64 a0, .int .i64 a1, .int .i64 a2, .int .i64 a3, .int .i64 a4, .int .i64 a5, .int .i64 a6, .int .i64 a7]) (.int .i64 1)).run Tryz.prog W = .ok (.int .i64 a1) W ∧
    (Instr.index 46 (.agg #[.int .i64 a0, .int .i64 a1, .int .i64 a2, .int .i64 a3, .int .i64 a4, .int .i64 a5, .int .i64 a6, .int .i64 a7]) (.int .i64 2)).run Tryz.prog W = .ok (.int .i64 a2) W ∧
    (Instr.index 46 (.agg #[.int .i64 a0, .int .i64 a1, .int .i64 a2, .int .i64 a3, .int .i64 a4, .int .i64 a5, .int .i64 a6, .int .i64 a7]) (.int .i64 3)).run Tryz.prog W = .ok (.int .i64 a3) W ∧
    (Instr.index 46 (.agg #[.int .i64 a0, .int .i64 a1, .int .i64 a2, .int .i64 a3, .int .i64 a4, .int .i64 a5, .int .i64 a6, .int .i64 a7]) (.int .i64 4)).run Tryz.prog W = .ok (.int .i64 a4) W ∧
    (Instr.index 46 (.agg #[.int .i64 a0, .int .i64 a1, .int .i64 a2, .int .i64 a3, .int .i64 a4, .int .i64 a5, .int .i64 a6, .int .i64 a7]) (.int .i64 5)).run Tryz.prog W = .ok (.int .i64 a5) W ∧
    (Instr.index 46 (.agg #[.int .i64 a0, .int .i64 a1, .int .i64 a2, .int .i64 a3, .int .i64 a4, .int .i64 a5, .int .i64 a6, .int .i64 a7]) (.int .i64 6)).run Tryz.prog W = .ok (.int .i64 a6) W ∧
    (Instr.index 46 (.agg #[.int .i64 a0, .int .i64 a1, .int .i64 a2, .int .i64 a3, .int .i64 a4, .int .i64 a5, .int .i64 a6, .int .i64 a7]) (.int .i64 7)).run Tryz.prog W = .ok (.int .i64 a7) W :=
  ⟨by kernel_rfl, by kernel_rfl, by kernel_rfl, by kernel_rfl, by kernel_rfl, by kernel_rfl, by kernel_rfl, by kernel_rfl⟩
set_option maxRecDepth 100000 in
set_option maxHeartbeats 4000000 in
theorem tlen_any (t root : Nat) (N : Nodes) (cnt : List Int) (w : World) (h : Trie w t root N cnt) (hc2 : ∀ v ∈ cnt, 0 ≤ v ∧ v ≤ 1000) :
    Calls Tryz.prog 6 #[.pointer (some ⟨t, 0, none⟩)] w fun e w' => e = .returned (.int .i64 cnt.sum) ∧ w = w' := by
  have hlen := h.len
  match cnt, hlen with
  | [a0, a1, a2, a3, a4, a5, a6, a7], _ =>
    have c0 := h.cell0
    have k1 : w.cell? ⟨t, 1, none⟩ = some (.int .i64 a0) := h.cellN (k := 0) rfl
    have k2 : w.cell? ⟨t, 2, none⟩ = some (.int .i64 a1) := h.cellN (k := 1) rfl
    have k3 : w.cell? ⟨t, 3, none⟩ = some (.int .i64 a2) := h.cellN (k := 2) rfl
    have k4 : w.cell? ⟨t, 4, none⟩ = some (.int .i64 a3) := h.cellN (k := 3) rfl
    have k5 : w.cell? ⟨t, 5, none⟩ = some (.int .i64 a4) := h.cellN (k := 4) rfl
    have k6 : w.cell? ⟨t, 6, none⟩ = some (.int .i64 a5) := h.cellN (k := 5) rfl
    have k7 : w.cell? ⟨t, 7, none⟩ = some (.int .i64 a6) := h.cellN (k := 6) rfl
    have k8 : w.cell? ⟨t, 8, none⟩ = some (.int .i64 a7) := h.cellN (k := 7) rfl
    have b0 := hc2 a0 (by simp)
    have b1 := hc2 a1 (by simp)
    have b2 := hc2 a2 (by simp)
    have b3 := hc2 a3 (by simp)
    have b4 := hc2 a4 (by simp)
    have b5 := hc2 a5 (by simp)
    have b6 := hc2 a6 (by simp)
    have b7 := hc2 a7 (by simp)
    have w0 : IntKind.i64.wrap (0 + a0) = a0 := by rw [IntWalk.i64_in _ (by omega)]; omega
    have w0' : IntKind.i64.wrap a0 = a0 := IntWalk.i64_in _ (by omega)
    have w1 : IntKind.i64.wrap (a0 + a1) = a0 + a1 := IntWalk.i64_in _ (by omega)
    have w2 : IntKind.i64.wrap (a0 + a1 + a2) = a0 + a1 + a2 := IntWalk.i64_in _ (by omega)
    have w3 : IntKind.i64.wrap (a0 + a1 + a2 + a3) = a0 + a1 + a2 + a3 := IntWalk.i64_in _ (by omega)
    have w4 : IntKind.i64.wrap (a0 + a1 + a2 + a3 + a4) = a0 + a1 + a2 + a3 + a4 := IntWalk.i64_in _ (by omega)
    have w5 : IntKind.i64.wrap (a0 + a1 + a2 + a3 + a4 + a5) = a0 + a1 + a2 + a3 + a4 + a5 := IntWalk.i64_in _ (by omega)
    have w6 : IntKind.i64.wrap (a0 + a1 + a2 + a3 + a4 + a5 + a6) = a0 + a1 + a2 + a3 + a4 + a5 + a6 := IntWalk.i64_in _ (by omega)
    have w7 : IntKind.i64.wrap (a0 + a1 + a2 + a3 + a4 + a5 + a6 + a7) = a0 + a1 + a2 + a3 + a4 + a5 + a6 + a7 := IntWalk.i64_in _ (by omega)
    have hsum : [a0, a1, a2, a3, a4, a5, a6, a7].sum = a0 + a1 + a2 + a3 + a4 + a5 + a6 + a7 := by simp only [List.sum_cons, List.sum_nil]; omega
    rw [hsum]
    obtain ⟨i0, i1, i2, i3, i4, i5, i6, i7⟩ := ix8 a0 a1 a2 a3 a4 a5 a6 a7 w
    clear h hc2 b0 b1 b2 b3 b4 b5 b6 b7 hsum
    go_enter Tryz.func6, Tryz.ntmps6
    go_wp2_with (go_at_call 22; refine (tnone_no t root _ c0).mono ?_; rintro e w' ⟨rfl, rfl⟩)
    refine wp_loop_rounds 9 ?_
    iterate 9
      rw [rounds_succ]
      go_wp2_with fail
    go_ret
    exact ⟨rfl, rfl⟩
end Go.Proofs.YtldagaliddgdjaaGreatDoor
