/- What spark does with an entry, step by step (chapter 37). -/
import Derived.Test.YtecociaolohfmaaGreatDoorSpEdge
import Derived.Test.YtecociaolohfmaaGreatDoorSpNone
set_option linter.unusedSimpArgs false
set_option linter.unusedVariables false
namespace Go.Proofs.YtecociaolohfmaaGreatDoor
open Go.RowKit

theorem blk14 {w : World} {b : Nat} {x0 x1 x2 x3 x4 x5 x6 x7 x8 x9 x10 x11 x12 x13 : Value} {T : TypeId} (h : w.heap[b]? = some (.cells #[x0, x1, x2, x3, x4, x5, x6, x7, x8, x9, x10, x11, x12, x13] T (0, 0))) :
    w.cell? ⟨b, 0, none⟩ = some x0 ∧ w.cell? ⟨b, 1, none⟩ = some x1 ∧ w.cell? ⟨b, 2, none⟩ = some x2 ∧ w.cell? ⟨b, 3, none⟩ = some x3 ∧ w.cell? ⟨b, 4, none⟩ = some x4 ∧ w.cell? ⟨b, 5, none⟩ = some x5 ∧ w.cell? ⟨b, 6, none⟩ = some x6 ∧ w.cell? ⟨b, 7, none⟩ = some x7 ∧ w.cell? ⟨b, 8, none⟩ = some x8 ∧ w.cell? ⟨b, 9, none⟩ = some x9 ∧ w.cell? ⟨b, 10, none⟩ = some x10 ∧ w.cell? ⟨b, 11, none⟩ = some x11 ∧ w.cell? ⟨b, 12, none⟩ = some x12 ∧ w.cell? ⟨b, 13, none⟩ = some x13 :=
  ⟨by rw [cell_of_row _ _ _ _ _ _ h]; rfl, by rw [cell_of_row _ _ _ _ _ _ h]; rfl, by rw [cell_of_row _ _ _ _ _ _ h]; rfl, by rw [cell_of_row _ _ _ _ _ _ h]; rfl, by rw [cell_of_row _ _ _ _ _ _ h]; rfl, by rw [cell_of_row _ _ _ _ _ _ h]; rfl, by rw [cell_of_row _ _ _ _ _ _ h]; rfl, by rw [cell_of_row _ _ _ _ _ _ h]; rfl, by rw [cell_of_row _ _ _ _ _ _ h]; rfl, by rw [cell_of_row _ _ _ _ _ _ h]; rfl, by rw [cell_of_row _ _ _ _ _ _ h]; rfl, by rw [cell_of_row _ _ _ _ _ _ h]; rfl, by rw [cell_of_row _ _ _ _ _ _ h]; rfl, by rw [cell_of_row _ _ _ _ _ _ h]; rfl⟩
/-- An entry at work. -/
structure Ent where
  at' : Int
  topic : ByteArray
  text : ByteArray
  qos : Int
  ret : Bool
  s : Spot
  node : Value
  code : Int
  vg : ByteArray
  vn : ByteArray
  ask : Bool
def EntAt (w : World) (b : Nat) (x : Ent) : Prop :=
  w.heap[b]? = some (.cells #[.int .i64 x.at', .string x.topic, .string x.text, .int .i64 x.qos, .bool x.ret, .int .i64 x.s.k, .string x.s.g, .string x.s.n, .string x.s.d, x.node, .int .i64 x.code, .string x.vg, .string x.vn, .bool x.ask] 53 (0, 0))
theorem EntAt.own {S : List Nat} {w w' : World} {b : Nat} {x : Ent} (h : EntAt w b x) (ho : Own S w w') (hb : b ∉ S) : EntAt w' b x := ho.heap h hb
/-- An entry's spot tells something. -/
def spTells (k : Int) : Bool := !(k == 0 || k == 4 || k == 8)
set_option maxRecDepth 100000 in
set_option maxHeartbeats 4000000 in
theorem pass_any (p b : Nat) (x : Ent) (w : World) (h : EntAt w b x) : Calls Tryz.prog 26 #[Ptr p, Ptr b] w fun e w' => e = .returned (.bool (spTells x.s.k)) ∧ w = w' := by
  obtain ⟨c0, c1, c2, c3, c4, c5, c6, c7, c8, c9, c10, c11, c12, c13⟩ := blk14 h
  clear h
  generalize x.s.k = k at *
  by_cases k0 : k = 0
  · subst k0
    go_enter Tryz.func26, Tryz.ntmps26
    go_wp2_with fail
    go_ret
    exact ⟨rfl, rfl⟩
  · by_cases k4 : k = 4
    · subst k4
      go_enter Tryz.func26, Tryz.ntmps26
      go_wp2_with fail
      go_ret
      exact ⟨rfl, rfl⟩
    · by_cases k8 : k = 8
      · subst k8
        go_enter Tryz.func26, Tryz.ntmps26
        go_wp2_with fail
        go_ret
        exact ⟨rfl, rfl⟩
      · have q0 : (k == 0) = false := by simpa using k0
        have q4 : (k == 4) = false := by simpa using k4
        have q8 : (k == 8) = false := by simpa using k8
        have hT : spTells k = true := by unfold spTells; rw [q0, q4, q8]; rfl
        rw [hT]
        go_enter Tryz.func26, Tryz.ntmps26
        go_wp2_with fail
        go_ret
        exact ⟨rfl, rfl⟩
set_option maxRecDepth 100000 in
set_option maxHeartbeats 4000000 in
theorem state_node (p b : Nat) (x : Ent) (w : World) (h : EntAt w b x) (h9 : x.s.k ≠ 9) : Calls Tryz.prog 27 #[Ptr p, Ptr b] w fun e w' => e = .returned (.bool true) ∧ Own [b] w w' ∧ EntAt w' b { x with vn := x.s.n } := by
  obtain ⟨c0, c1, c2, c3, c4, c5, c6, c7, c8, c9, c10, c11, c12, c13⟩ := blk14 h
  have z12 := frozen_of_row _ b 12 _ _ h
  have hO : Own [b] w (w.setCell ⟨b, 12, none⟩ (.string x.s.n)) := (Own.refl [b] w).setCell (.inl (by simp)) _
  have hr : EntAt (w.setCell ⟨b, 12, none⟩ (.string x.s.n)) b { x with vn := x.s.n } := by
    have := heap_setCell_same _ b 12 _ _ (.string x.s.n) h
    simpa [EntAt] using this
  have q9 : (x.s.k == 9) = false := by simpa using h9
  have k9 : (w.setCell ⟨b, 12, none⟩ (.string x.s.n)).cell? ⟨b, 5, none⟩ = some (.int .i64 x.s.k) := (blk14 hr).2.2.2.2.2.1
  go_enter Tryz.func27, Tryz.ntmps27
  go_wp2_with fail
  go_ret
  exact ⟨rfl, hO, hr⟩
set_option maxRecDepth 100000 in
set_option maxHeartbeats 4000000 in
theorem remember_off (p b : Nat) (x : Ent) (w : World) (h : EntAt w b x) (h1 : x.code ≠ 1) : Calls Tryz.prog 30 #[Ptr p, Ptr b] w fun e w' => e = .returned (.bool true) ∧ w = w' := by
  obtain ⟨c0, c1, c2, c3, c4, c5, c6, c7, c8, c9, c10, c11, c12, c13⟩ := blk14 h
  have q1 : (x.code == 1) = false := by simpa using h1
  go_enter Tryz.func30, Tryz.ntmps30
  go_wp2_with fail
  go_ret
  exact ⟨rfl, rfl⟩
end Go.Proofs.YtecociaolohfmaaGreatDoor
