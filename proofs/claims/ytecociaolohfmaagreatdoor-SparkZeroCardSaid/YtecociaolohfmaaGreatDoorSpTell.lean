/- What spark does with an entry that a fresh node refuses (chapter 37). -/
import Derived.Test.YtecociaolohfmaaGreatDoorSpSteps
set_option linter.unusedSimpArgs false
set_option linter.unusedVariables false
namespace Go.Proofs.YtecociaolohfmaaGreatDoor
open Go.RowKit

set_option maxRecDepth 100000 in
set_option maxHeartbeats 4000000 in
theorem tell_fresh (p b n r a : Nat) (g nm : ByteArray) (pe : Bool) (x : Ent) (w : World) (h : EntAt w b x) (ht : x.text = ⟨#[]⟩) (hk : x.s.k = 3) (hn : x.node = .pointer (some ⟨n, 0, none⟩)) (hF : FEat w n r a g nm pe)
    (hnr : n ≠ r) (hbn : b ≠ n) (hbr : b ≠ r) : Calls Tryz.prog 29 #[Ptr p, Ptr b] w fun e w' => e = .returned (.bool true) ∧ Own [b, n] w w' ∧ EntAt w' b { x with code := 5 } ∧ FEat w' n r a g nm true := by
  obtain ⟨c0, c1, c2, c3, c4, c5, c6, c7, c8, c9, c10, c11, c12, c13⟩ := blk14 h
  rw [ht] at c2
  obtain ⟨cc, oo, hq⟩ : ∃ cc oo, (convert 9 130 (.string ⟨#[]⟩)).run Tryz.prog w = .ok (.slice (some ⟨w.heap.size, 0, none⟩) 0 cc) (w.drew.alloc oo) :=
    ⟨_, _, run_bytes_of_string w 9 130 5 ⟨#[]⟩ Tryz.underlying9 Tryz.underlying130 Tryz.underlying5⟩
  have hO1 : Own [] w (w.drew.alloc oo) := (Own.refl [] w).drew.alloc oo
  have cP := Lib.hid pay_none
  go_enter Tryz.func29, Tryz.ntmps29
  go_wp2_with fail
  refine (cP.out _ _ _).mono ?_
  rintro e w1 ⟨rfl, hO⟩
  unfold payZero
  have hO2 : Own [] w w1 := hO1.trans hO
  have hE1 := h.own hO2 (by simp)
  have hF1 := hF.own hO2
  have hP1 := (Own.refl [] w1).alloc (.cells #[.int .u64 0, .bool false, .int .u64 0, .string ⟨#[]⟩, .string ⟨#[]⟩, .slice none 0 0] 127)
  obtain ⟨d0, d1, d2, d3, d4, d5, d6, d7, d8, d9, d10, d11, d12, d13⟩ := blk14 (hE1.own hP1 (by simp))
  rw [hn] at d9
  rw [hk] at d5
  obtain ⟨y0, y1, y2, y3, y4, y5⟩ := blk6 (heap_alloc_new w1 (.cells #[.int .u64 0, .bool false, .int .u64 0, .string ⟨#[]⟩, .string ⟨#[]⟩, .slice none 0 0] 127))
  go_wp2_with fail
  have hF2 := hF1.own hP1
  have hE2 := hE1.own hP1 (by simp)
  have hO3 : Own [b, n] w (w1.alloc (.cells #[.int .u64 0, .bool false, .int .u64 0, .string ⟨#[]⟩, .string ⟨#[]⟩, .slice none 0 0] 127)) := (hO2.alloc _).nil
  have hn1 : n < w1.heap.size := Nat.lt_of_lt_of_le (lt_of_heap hF.1) hO2.size
  have hb1 : b < w1.heap.size := Nat.lt_of_lt_of_le (lt_of_heap h) hO2.size
  generalize w1.alloc (.cells #[.int .u64 0, .bool false, .int .u64 0, .string ⟨#[]⟩, .string ⟨#[]⟩, .slice none 0 0] 127) = W at *
  have cT := Lib.hid (fun W' (hF : FEat W' n r a g nm pe) => etake_fresh hF hnr x.s.d)
  unfold payZero at cT
  replace hF2 := Lib.hid hF2
  have hFd : Hid (FEat W.drew n r a g nm pe) := Lib.hid (hF2.out.own ((Own.refl [] W).drew))
  have hS : Hid (∀ W' y, Own [b, n] W W' → EntAt W' b y → y.s = x.s → y.node = x.node → W'.cell? ⟨b, 9, none⟩ = some (.pointer (some ⟨n, 0, none⟩)) ∧ W'.cell? ⟨b, 5, none⟩ = some (.int .i64 3) ∧ W'.cell? ⟨b, 8, none⟩ = some (.string x.s.d) ∧ W'.cell? ⟨w1.heap.size, 0, none⟩ = some (.int .u64 0) ∧ W'.cell? ⟨w1.heap.size, 1, none⟩ = some (.bool false) ∧ W'.cell? ⟨w1.heap.size, 2, none⟩ = some (.int .u64 0) ∧ W'.cell? ⟨w1.heap.size, 3, none⟩ = some (.string ⟨#[]⟩) ∧ W'.cell? ⟨w1.heap.size, 4, none⟩ = some (.string ⟨#[]⟩) ∧ W'.cell? ⟨w1.heap.size, 5, none⟩ = some (.slice none 0 0)) := Lib.hid (fun W' y ho hy qs qn => by
    have m2 : w1.heap.size ∉ [b, n] := by simp; omega
    obtain ⟨e0, e1, e2, e3, e4, e5, e6, e7, e8, e9, e10, e11, e12, e13⟩ := blk14 hy
    rw [qs] at e5 e8
    rw [qn, hn] at e9
    rw [hk] at e5
    exact ⟨e9, e5, e8, (ho.cell (block_lt_of_cell y0) m2).trans y0, (ho.cell (block_lt_of_cell y1) m2).trans y1, (ho.cell (block_lt_of_cell y2) m2).trans y2, (ho.cell (block_lt_of_cell y3) m2).trans y3, (ho.cell (block_lt_of_cell y4) m2).trans y4, (ho.cell (block_lt_of_cell y5) m2).trans y5⟩)
  clear hP1 hO1 hO hO2 hE1 hF1 hq h hF cP c0 c1 c2 c3 c4 c5 c6 c7 c8 c9 c10 c11 c12 c13
  go_region_held3 (fun W' => W'.cell? ⟨b, 9, none⟩ = some (.pointer (some ⟨n, 0, none⟩)) ∧ W'.cell? ⟨b, 5, none⟩ = some (.int .i64 3) ∧ W'.cell? ⟨b, 8, none⟩ = some (.string x.s.d) ∧ W'.cell? ⟨w1.heap.size, 0, none⟩ = some (.int .u64 0) ∧ W'.cell? ⟨w1.heap.size, 1, none⟩ = some (.bool false) ∧ W'.cell? ⟨w1.heap.size, 2, none⟩ = some (.int .u64 0) ∧ W'.cell? ⟨w1.heap.size, 3, none⟩ = some (.string ⟨#[]⟩) ∧ W'.cell? ⟨w1.heap.size, 4, none⟩ = some (.string ⟨#[]⟩) ∧ W'.cell? ⟨w1.heap.size, 5, none⟩ = some (.slice none 0 0)) (first | with_reducible exact kA | with_reducible exact kB | go_keep) ((go_at_call 63; ((with_reducible refine (cT.out _ (by first | exact hF2.out | exact hFd.out)).mono ?_); rintro e w3 ⟨rfl, hOt, hFt⟩; have hOw : Own [n] W w3 := (by first | exact hOt | exact ((Own.refl [n] W).drew).trans hOt); have hE3 := hE2.own hOw (by simpa using hbn); have hOw2 : Own [b, n] W w3 := hOw.mono (by simp); have kA := hS.out _ x hOw2 hE3 rfl rfl; have z10 := frozen_of_row _ b 10 _ _ hE3; have hE4 : EntAt (w3.setCell ⟨b, 10, none⟩ (.int .i64 5)) b { x with code := 5 } := (by have := heap_setCell_same _ b 10 _ _ (.int .i64 5) hE3; simpa [EntAt] using this); have hO4 : Own [b, n] W (w3.setCell ⟨b, 10, none⟩ (.int .i64 5)) := hOw2.setCell (.inl (by simp)) _; have kB := hS.out _ _ hO4 hE4 rfl rfl; have c10 := (blk14 hE3).2.2.2.2.2.2.2.2.2.2.1)))
  all_goals
    have hb3 : Own [b] w3 (w3.setCell ⟨b, 10, none⟩ (.int .i64 5)) := (Own.refl [b] w3).setCell (.inl (by simp)) _
    have hF4 : FEat (w3.setCell ⟨b, 10, none⟩ (.int .i64 5)) n r a g nm true := ⟨hb3.heap hFt.1 (by simpa using hbn.symm), hb3.heap hFt.2 (by simpa using hbr.symm)⟩
    have hO5 := hO3.trans hO4
    go_wp2_with fail
    go_ret
    exact ⟨rfl, hO5, hE4, hF4⟩
end Go.Proofs.YtecociaolohfmaaGreatDoor
