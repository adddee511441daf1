/- What spark does with an entry of a node that nobody knows (chapter 37). -/
import Derived.Test.YtecociaolohfmaaGreatDoorSpKey
import Derived.Test.YtecociaolohfmaaGreatDoorSpSteps
set_option linter.unusedSimpArgs false
set_option linter.unusedVariables false
namespace Go.Proofs.YtecociaolohfmaaGreatDoor
open Go.RowKit

theorem ezero (w : World) : (zeroValue 51).run Tryz.prog w = .ok (.pointer none) w := by kernel_rfl
set_option maxRecDepth 100000 in
set_option maxHeartbeats 4000000 in
theorem know_new (p b m h bb r : Nat) (asked : Int) (x : Ent) (w : World) (hx : EntAt w b x) (hp : w.heap[p]? = some (.cells #[.map (some m), Ptr h, Ptr bb, Ptr r, .int .i64 asked] 30 (0, 0)))
    (hM : MapS keyEnc w m []) (hg : (x.s.g.toList == []) = false) (hn : (x.s.n.toList == []) = false) (hbp : b ≠ p) (hbm : b ≠ m) (hpm : p ≠ m) :
    Calls Tryz.prog 28 #[Ptr p, Ptr b] w fun e w' => e = .returned (.bool true) ∧ ∃ n rr a, w.heap.size ≤ n ∧ w.heap.size ≤ rr ∧ n ≠ rr ∧
      EntAt w' b { x with vg := x.s.g, node := .pointer (some ⟨n, 0, none⟩) } ∧ FEat w' n rr a x.s.g x.s.n false ∧ MapS keyEnc w' m [((x.s.g, x.s.n), .pointer (some ⟨n, 0, none⟩))] ∧ Own [b, m] w w' := by
  obtain ⟨c0, c1, c2, c3, c4, c5, c6, c7, c8, c9, c10, c11, c12, c13⟩ := blk14 hx
  have p0 : w.cell? ⟨p, 0, none⟩ = some (.map (some m)) := by rw [cell_of_row _ _ _ _ _ _ hp]; rfl
  have cN := Lib.hid fun W => enew_any x.s.g x.s.n hg hn W
  go_enter Tryz.func28, Tryz.ntmps28
  have hA1 := (Own.refl [] w).alloc (.cells #[.string ⟨#[]⟩, .string ⟨#[]⟩] 60)
  have hx1 := hx.own hA1 (by simp)
  obtain ⟨d0, d1, d2, d3, d4, d5, d6, d7, d8, d9, d10, d11, d12, d13⟩ := blk14 hx1
  go_wp2_with fail
  go_region
  all_goals
    generalize hW1 : World.alloc _ _ = W1
    have hO1 : Own [] w W1 := by rw [← hW1]; first | exact (Own.refl [] w).drew.alloc _ | exact ((Own.refl [] w).alloc _).drew | exact (Own.refl [] w).alloc _
    have hk1 : W1.drew.heap[w.heap.size]? = some (.cells #[.string x.s.g, .string x.s.n] 60 (0, 0)) := by rw [← hW1]; exact heap_alloc_new _ _
    have hO2 : Own [] w W1.drew := hO1.drew
    clear hO1 hW1 hx1 hA1 d0 d1 d2 d3 d4 d5 d6 d7 d8 d9 d10 d11 d12 d13
    generalize W1.drew = W2 at *
    obtain ⟨kb, hkb⟩ : ∃ kb, kb = w.heap.size := ⟨_, rfl⟩
    rw [← hkb] at hk1 ⊢
    have hbl := lt_of_heap hx
    have hpl := lt_of_heap hp
    have hml := hM.lt
    have hbk : b < kb := by omega
    have hpk : p < kb := by omega
    have hmk : m < kb := by omega
    have hkw : w.heap.size ≤ kb := by omega
    clear hkb hbl hpl hml
    have hE2 := hx.own hO2 (by simp)
    have hE3 : EntAt (W2.setCell ⟨b, 11, none⟩ (.string x.s.g)) b { x with vg := x.s.g } := by
      have := heap_setCell_same _ b 11 _ _ (.string x.s.g) hE2
      simpa [EntAt] using this
    have hO3 : Own [b] w (W2.setCell ⟨b, 11, none⟩ (.string x.s.g)) := (hO2.nil).setCell (.inl (by simp)) _
    have hO23 : Own [b] W2 (W2.setCell ⟨b, 11, none⟩ (.string x.s.g)) := (Own.refl _ _).setCell (.inl (by simp)) _
    have z11 := frozen_of_row _ b 11 _ _ hE2
    have b11 := (blk14 hE2).2.2.2.2.2.2.2.2.2.2.2.1
    have k0 : W2.cell? ⟨kb, 0, none⟩ = some (.string x.s.g) := cell_of_row _ kb 0 _ _ _ hk1
    have k1 : W2.cell? ⟨kb, 1, none⟩ = some (.string x.s.n) := cell_of_row _ kb 1 _ _ _ hk1
    have hk3 := hO23.heap hk1 (by simp; omega)
    have hp3 := hO3.heap hp (by simpa using hbp.symm)
    have hM3 := hM.own hO3 (by simpa using hbm.symm)
    clear c0 c1 c2 c3 c4 c5 c6 c7 c8 c9 c10 c11 c12 c13 p0
    generalize hW3 : W2.setCell ⟨b, 11, none⟩ (.string x.s.g) = W3 at *
    have f0 : W3.cell? ⟨kb, 0, none⟩ = some (.string x.s.g) := cell_of_row _ kb 0 _ _ _ hk3
    have f1 : W3.cell? ⟨kb, 1, none⟩ = some (.string x.s.n) := cell_of_row _ kb 1 _ _ _ hk3
    have q0 : W3.cell? ⟨p, 0, none⟩ = some (.map (some m)) := by rw [cell_of_row _ _ _ _ _ _ hp3]; rfl
    have hlk := hM3.lookup_no key_kind nodesT (x.s.g, x.s.n) (ezero W3) rfl true
    have hlk2 := (hM3.own ((Own.refl [] W3).drew) (by simp)).lookup_no key_kind nodesT (x.s.g, x.s.n) (ezero W3.drew) rfl true
    simp only [keyEnc, if_true] at hlk hlk2
    go_wp2_with fail
    go_region
    all_goals
      go_wp2_with fail
      refine (cN.out _).mono ?_
      rintro e w4 ⟨n, rr, a, rfl, hO4, hn1, hnr, hr1, hF⟩
      have hO4' : Own [] W3 w4 := (Own.refl [] W3).drew.trans hO4
      have hn2 : W3.heap.size ≤ n := by simpa using hn1
      have hr2 : W3.heap.size ≤ rr := by simpa using hr1
      have hz2 := hO2.size
      have hz3 := hO3.size
      have hk4 := hO4'.heap hk3 (by simp)
      have hp4 := hO4'.heap hp3 (by simp)
      have hM4 := hM3.own hO4' (by simp)
      have hE4 := hE3.own hO4' (by simp)
      have hb3 := lt_of_heap hE3
      have g0 : w4.cell? ⟨kb, 0, none⟩ = some (.string x.s.g) := cell_of_row _ kb 0 _ _ _ hk4
      have g1 : w4.cell? ⟨kb, 1, none⟩ = some (.string x.s.n) := cell_of_row _ kb 1 _ _ _ hk4
      have r0 : w4.cell? ⟨p, 0, none⟩ = some (.map (some m)) := by rw [cell_of_row _ _ _ _ _ _ hp4]; rfl
      have hlen := hM4.len_run (P := Tryz.prog) nodesT
      obtain ⟨w5, hu, hM5, hO5', hs5⟩ := (hM4.own ((Own.refl [] w4).drew) (by simp)).update key_kind nodesT (x.s.g, x.s.n) (.pointer (some ⟨n, 0, none⟩))
      simp only [keyEnc, List.length_nil] at hu hlen
      have hO5 : Own [m] w4 w5 := (Own.refl [m] w4).drew.trans hO5'
      have hml := hM4.lt
      have hE5 := hE4.own hO5 (by simpa using hbm)
      have hF5 : FEat w5 n rr a x.s.g x.s.n false := by
        have hm3 := hM3.lt
        exact ⟨hO5.heap hF.1 (by simp; omega), hO5.heap hF.2 (by simp; omega)⟩
      have z9 := frozen_of_row _ b 9 _ _ hE5
      have b9 := (blk14 hE5).2.2.2.2.2.2.2.2.2.1
      clear hlk hlk2 f0 f1 q0 cN
      go_wp2_with fail
      go_region
      all_goals
        go_wp2_with fail
        go_ret
        have hO6 : Own [b] w5 (w5.setCell ⟨b, 9, none⟩ (.pointer (some ⟨n, 0, none⟩))) := (Own.refl _ _).setCell (.inl (by simp)) _
        have hE6 : EntAt (w5.setCell ⟨b, 9, none⟩ (.pointer (some ⟨n, 0, none⟩))) b { x with vg := x.s.g, node := .pointer (some ⟨n, 0, none⟩) } := by
          have := heap_setCell_same _ b 9 _ _ (.pointer (some ⟨n, 0, none⟩)) hE5
          simpa [EntAt] using this
        exact ⟨rfl, n, rr, a, by omega, by omega, hnr, hE6, ⟨hO6.heap hF5.1 (by simp; omega), hO6.heap hF5.2 (by simp; omega)⟩, hM5.own hO6 (by simpa using hbm.symm),
          (((hO3.mono (by simp)).trans hO4'.nil).trans (hO5.mono (by simp))).trans (hO6.mono (by simp))⟩
end Go.Proofs.YtecociaolohfmaaGreatDoor
