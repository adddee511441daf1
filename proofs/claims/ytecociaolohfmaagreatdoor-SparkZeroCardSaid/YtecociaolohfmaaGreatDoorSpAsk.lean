/- What spark does with an entry: it asks for a birth (chapter 37). -/
import Derived.Test.YtecociaolohfmaaGreatDoorSpSteps
import Derived.Test.YtecociaolohfmaaGreatDoorRateTops
set_option linter.unusedSimpArgs false
set_option linter.unusedVariables false
namespace Go.Proofs.YtecociaolohfmaaGreatDoor
open Go.RowKit

/-- A node's key as a text. -/
def spKey (g n : ByteArray) : ByteArray := g ++ ⟨#[47]⟩ ++ n
set_option maxRecDepth 100000 in
set_option maxHeartbeats 4000000 in
theorem text_any (g n : ByteArray) (hg : g.size ≤ 1048576) (hn : n.size ≤ 1048576) (w : World) : Calls Tryz.prog 68 #[.agg #[.string g, .string n]] w fun e w' => e = .returned (.string (spKey g n)) ∧ Own [] w w' := by
  have hO1 : Own [] w (w.alloc (.cells #[.string g, .string n] 60)) := (Own.refl _ _).alloc _
  have hb := heap_alloc_new w (.cells #[.string g, .string n] 60)
  have c0 : (w.alloc (.cells #[.string g, .string n] 60)).cell? ⟨w.heap.size, 0, none⟩ = some (.string g) := by rw [cell_of_row _ _ _ _ _ _ hb]; rfl
  have c1 : (w.alloc (.cells #[.string g, .string n] 60)).cell? ⟨w.heap.size, 1, none⟩ = some (.string n) := by rw [cell_of_row _ _ _ _ _ _ hb]; rfl
  have i1 : ¬ 9223372036854775807 < g.size + 1 := by omega
  have i2 : ¬ 9223372036854775807 < g.size + 1 + n.size := by omega
  have i3 : ¬ 9223372036854775807 < (g ++ ⟨#[47]⟩).size + n.size := by
    rw [ByteArray.size_append]; show ¬ 9223372036854775807 < g.size + 1 + n.size; omega
  go_enter Tryz.func68, Tryz.ntmps68
  go_wp2_with fail
  go_ret
  exact ⟨rfl, hO1⟩
set_option maxRecDepth 100000 in
set_option maxHeartbeats 4000000 in
theorem ask_yes (p b r m h bb : Nat) (gap asked : Int) (B : List Nat) (l : RTab) (x : Ent) (w : World) (hx : EntAt w b x) (hR : Rate w r gap B l)
    (hp : w.heap[p]? = some (.cells #[.map (some m), Ptr h, Ptr bb, Ptr r, .int .i64 asked] 30 (0, 0))) (hc : 3 ≤ x.code) (h0 : 0 ≤ asked) (h1 : asked < 1000000) (hpb : p ≠ b) (hpB : p ∉ B) (hbB : b ∉ B)
    (hg : x.s.g.size ≤ 1048576) (hn : x.s.n.size ≤ 1048576) (hm : rMay l gap (spKey x.s.g x.s.n) x.at' = true) : Calls Tryz.prog 31 #[Ptr p, Ptr b] w fun e w' =>
      e = .returned (.bool false) ∧ Own (b :: p :: B) w w' ∧ EntAt w' b { x with ask := true } ∧ w'.heap[p]? = some (.cells #[.map (some m), Ptr h, Ptr bb, Ptr r, .int .i64 (asked + 1)] 30 (0, 0)) := by
  have cA := Lib.hid (fun W (hR : Rate W r gap B l) => ask_any r gap B l (spKey x.s.g x.s.n) x.at' W hR)
  have cT := Lib.hid (text_any x.s.g x.s.n hg hn)
  have hS : Hid (∀ W', Own B w W' → W'.cell? ⟨b, 10, none⟩ = some (.int .i64 x.code) ∧ W'.cell? ⟨b, 6, none⟩ = some (.string x.s.g) ∧ W'.cell? ⟨b, 7, none⟩ = some (.string x.s.n) ∧ W'.cell? ⟨b, 0, none⟩ = some (.int .i64 x.at') ∧ W'.cell? ⟨p, 3, none⟩ = some (Ptr r)) := Lib.hid (fun W' ho => by
    obtain ⟨e0, e1, e2, e3, e4, e5, e6, e7, e8, e9, e10, e11, e12, e13⟩ := blk14 (hx.own ho hbB)
    have q := ho.heap hp hpB
    exact ⟨e10, e6, e7, e0, by rw [cell_of_row _ _ _ _ _ _ q]; rfl⟩)
  have hS0 := hS.out w (Own.refl _ _)
  obtain ⟨s1, s2, s3, s4, s5⟩ := hS0
  go_enter Tryz.func31, Tryz.ntmps31
  go_wp2_with fail
  have hcc : (decide (3 ≤ x.code)) = true := by simpa using hc
  have hw : Own B w w := Own.refl _ _
  have hwd : Own B w w.drew := hw.drew
  have kW := hS.out _ hwd
  go_region_held3 (fun W' => W'.cell? ⟨b, 10, none⟩ = some (.int .i64 x.code) ∧ W'.cell? ⟨b, 6, none⟩ = some (.string x.s.g) ∧ W'.cell? ⟨b, 7, none⟩ = some (.string x.s.n) ∧ W'.cell? ⟨b, 0, none⟩ = some (.int .i64 x.at') ∧ W'.cell? ⟨p, 3, none⟩ = some (Ptr r)) (first | with_reducible exact kB | with_reducible exact kA | with_reducible exact kW | go_keep)
    ((first
      | (go_at_call 68; (with_reducible refine (cT.out _).mono ?_); rintro e w2 ⟨rfl, hO2⟩; have hO2w : Own B w w2 := (by first | exact hO2.nil | exact hwd.trans hO2.nil); have kA := hS.out _ hO2w; have hR2 := hR.nil (by first | exact hO2 | exact ((Own.refl [] w).drew).trans hO2))
      | (go_at_call 67; (with_reducible refine (cA.out _ hR2).mono ?_); rintro e w3 ⟨rfl, B', hR3, hO3, hB3⟩; have hO3w := hO2w.trans hO3; have kB := hS.out _ hO3w)))
  all_goals
    have hE3 := hx.own hO3w hbB
    have hp3 := hO3w.heap hp hpB
    have c13 := (blk14 hE3).2.2.2.2.2.2.2.2.2.2.2.2.2
    have z13 := frozen_of_row _ b 13 _ _ hE3
    have hE4 : EntAt (w3.setCell ⟨b, 13, none⟩ (.bool true)) b { x with ask := true } := by
      have := heap_setCell_same _ b 13 _ _ (.bool true) hE3
      simpa [EntAt] using this
    have hO4 : Own [b] w3 (w3.setCell ⟨b, 13, none⟩ (.bool true)) := (Own.refl [b] w3).setCell (.inl (by simp)) _
    have hp4 := hO4.heap hp3 (by simpa using hpb)
    have p4 : (w3.setCell ⟨b, 13, none⟩ (.bool true)).cell? ⟨p, 4, none⟩ = some (.int .i64 asked) := by rw [cell_of_row _ _ _ _ _ _ hp4]; rfl
    have z4 := frozen_of_row _ p 4 _ _ hp4
    have hO5 : Own [p] (w3.setCell ⟨b, 13, none⟩ (.bool true)) ((w3.setCell ⟨b, 13, none⟩ (.bool true)).setCell ⟨p, 4, none⟩ (.int .i64 (asked + 1))) := (Own.refl [p] _).setCell (.inl (by simp)) _
    have hE5 := hE4.own hO5 (by simpa using hpb.symm)
    have hp5 := heap_setCell_same _ p 4 _ _ (.int .i64 (asked + 1)) hp4
    have hOO : Own (b :: p :: B) w ((w3.setCell ⟨b, 13, none⟩ (.bool true)).setCell ⟨p, 4, none⟩ (.int .i64 (asked + 1))) :=
      ((hO3w.mono (by intro y hy; simp [hy])).trans (hO4.mono (by simp))).trans (hO5.mono (by simp))
    have hwr : IntKind.wrap .i64 (asked + 1) = asked + 1 := by rw [IntKind.wrap_i64]; omega
    go_wp2_with fail
    go_ret
    refine ⟨rfl, hOO, hE5, ?_⟩
    simpa using hp5
end Go.Proofs.YtecociaolohfmaaGreatDoor
