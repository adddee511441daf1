/- A node that was just made (chapter 33). -/
import Derived.Test.YtecociaolohfmaaGreatDoorSpPay
set_option linter.unusedSimpArgs false
set_option linter.unusedVariables false
namespace Go.Proofs.YtecociaolohfmaaGreatDoor
open Go.RowKit

theorem blk9 {w : World} {b : Nat} {x0 x1 x2 x3 x4 x5 x6 x7 x8 : Value} {T : TypeId} (h : w.heap[b]? = some (.cells #[x0, x1, x2, x3, x4, x5, x6, x7, x8] T (0, 0))) :
    w.cell? ⟨b, 0, none⟩ = some x0 ∧ w.cell? ⟨b, 1, none⟩ = some x1 ∧ w.cell? ⟨b, 2, none⟩ = some x2 ∧ w.cell? ⟨b, 3, none⟩ = some x3 ∧ w.cell? ⟨b, 4, none⟩ = some x4 ∧ w.cell? ⟨b, 5, none⟩ = some x5 ∧ w.cell? ⟨b, 6, none⟩ = some x6 ∧ w.cell? ⟨b, 7, none⟩ = some x7 ∧ w.cell? ⟨b, 8, none⟩ = some x8 :=
  ⟨by rw [cell_of_row _ _ _ _ _ _ h]; rfl, by rw [cell_of_row _ _ _ _ _ _ h]; rfl, by rw [cell_of_row _ _ _ _ _ _ h]; rfl, by rw [cell_of_row _ _ _ _ _ _ h]; rfl, by rw [cell_of_row _ _ _ _ _ _ h]; rfl, by rw [cell_of_row _ _ _ _ _ _ h]; rfl, by rw [cell_of_row _ _ _ _ _ _ h]; rfl, by rw [cell_of_row _ _ _ _ _ _ h]; rfl, by rw [cell_of_row _ _ _ _ _ _ h]; rfl⟩
theorem blk8 {w : World} {b : Nat} {x0 x1 x2 x3 x4 x5 x6 x7 : Value} {T : TypeId} (h : w.heap[b]? = some (.cells #[x0, x1, x2, x3, x4, x5, x6, x7] T (0, 0))) :
    w.cell? ⟨b, 0, none⟩ = some x0 ∧ w.cell? ⟨b, 1, none⟩ = some x1 ∧ w.cell? ⟨b, 2, none⟩ = some x2 ∧ w.cell? ⟨b, 3, none⟩ = some x3 ∧ w.cell? ⟨b, 4, none⟩ = some x4 ∧ w.cell? ⟨b, 5, none⟩ = some x5 ∧ w.cell? ⟨b, 6, none⟩ = some x6 ∧ w.cell? ⟨b, 7, none⟩ = some x7 :=
  ⟨by rw [cell_of_row _ _ _ _ _ _ h]; rfl, by rw [cell_of_row _ _ _ _ _ _ h]; rfl, by rw [cell_of_row _ _ _ _ _ _ h]; rfl, by rw [cell_of_row _ _ _ _ _ _ h]; rfl, by rw [cell_of_row _ _ _ _ _ _ h]; rfl, by rw [cell_of_row _ _ _ _ _ _ h]; rfl, by rw [cell_of_row _ _ _ _ _ _ h]; rfl, by rw [cell_of_row _ _ _ _ _ _ h]; rfl⟩
/-- A node that was just made: it was never born; p: it is pending. -/
def FEat (w : World) (b r a : Nat) (g n : ByteArray) (p : Bool) : Prop :=
  w.heap[b]? = some (.cells #[.string g, .string n, .bool false, .int .i64 0, .pointer (some ⟨r, 0, none⟩), .bool p, .slice none 0 0, .pointer (some ⟨a, 0, none⟩), .slice none 0 0] 81) ∧
  w.heap[r]? = some (.cells #[.int .u8 0, .bool false, .bool true] 139)
theorem FEat.own {w w' : World} {b r a : Nat} {g n : ByteArray} {p : Bool} (h : FEat w b r a g n p) (ho : Own [] w w') : FEat w' b r a g n p :=
  ⟨ho.heap h.1 (by simp), ho.heap h.2 (by simp)⟩
set_option maxRecDepth 100000 in
set_option maxHeartbeats 4000000 in
theorem enew_any (g n : ByteArray) (hg : (g.toList == []) = false) (hn : (n.toList == []) = false) (w : World) : Calls Tryz.prog 60 #[.string g, .string n] w fun e w' =>
    ∃ b r a, e = .returned (.tuple #[.pointer (some ⟨b, 0, none⟩), .int .i64 0]) ∧ Own [] w w' ∧ w.heap.size ≤ b ∧ b ≠ r ∧ w.heap.size ≤ r ∧ FEat w' b r a g n false := by
  have hmm := @run_makeMap Tryz.prog
  go_enter Tryz.func60, Tryz.ntmps60
  go_wp2_with go_in
  go_ret2
  refine ⟨_, w.heap.size, w.heap.size + 1 + 1, rfl, ((((Own.refl [] w).alloc _).alloc _).alloc _).alloc _, ?_, ?_, ?_, ?_, ?_⟩
  · omega
  · omega
  · omega
  · have := heap_alloc_new (((w.alloc (.cells #[.int .u8 0, .bool false, .bool true] 139)).alloc (.map #[] 0)).alloc (.cells #[.map (some (w.heap.size + 1))] 229)) (.cells #[.string g, .string n, .bool false, .int .i64 0, .pointer (some ⟨w.heap.size, 0, none⟩), .bool false, .slice none 0 0, .pointer (some ⟨w.heap.size + 1 + 1, 0, none⟩), .slice none 0 0] 81)
    simpa using this
  · exact ((((Own.refl [] _).alloc _).alloc _).alloc _).heap (heap_alloc_new w _) (by simp)
set_option maxRecDepth 100000 in
set_option maxHeartbeats 4000000 in
theorem etake_fresh {w : World} {b r a : Nat} {g n : ByteArray} {p : Bool} (h : FEat w b r a g n p) (hbr : b ≠ r) (d : ByteArray) :
    Calls Tryz.prog 63 #[.pointer (some ⟨b, 0, none⟩), .int .i64 3, .string d, payZero] w fun e w' => e = .returned (.int .i64 5) ∧ Own [b] w w' ∧ FEat w' b r a g n true := by
  unfold payZero
  have hP1 := (Own.refl [] w).alloc (.cells #[.int .u64 0, .bool false, .int .u64 0, .string ⟨#[]⟩, .string ⟨#[]⟩, .slice none 0 0] 127)
  have hP2 := hP1.alloc (.cells #[.int .u64 0, .bool false, .int .u64 0, .string ⟨#[]⟩, .string ⟨#[]⟩, .slice none 0 0] 127)
  have hF2 := h.own hP2
  have hbl := lt_of_heap h.1
  obtain ⟨c0, c1, c2, c3, c4, c5, c6, c7, c8⟩ := blk9 h.1
  obtain ⟨d0, d1, d2, d3, d4, d5, d6, d7, d8⟩ := blk9 (h.own hP1).1
  obtain ⟨e0, e1, e2, e3, e4, e5, e6, e7, e8⟩ := blk9 (h.own hP2).1
  have z5 := frozen_of_row _ b 5 _ _ (h.own hP2).1
  go_enter Tryz.func63, Tryz.ntmps63
  go_wp2_with go_in
  go_ret
  have hS1 : Own [b] w (w.setCell ⟨b, 5, none⟩ (.bool true)) := (Own.refl [b] w).setCell (.inl (by simp)) _
  have hS2 := (((Own.refl [] (w.setCell ⟨b, 5, none⟩ (.bool true))).alloc (.cells #[.int .u64 0, .bool false, .int .u64 0, .string ⟨#[]⟩, .string ⟨#[]⟩, .slice none 0 0] 127)).alloc (.cells #[.int .u64 0, .bool false, .int .u64 0, .string ⟨#[]⟩, .string ⟨#[]⟩, .slice none 0 0] 127))
  refine ⟨rfl, hS1.trans hS2.nil, ?_, ?_⟩
  · have := heap_setCell_same _ b 5 _ _ (.bool true) h.1
    exact hS2.heap (by simpa using this) (by simp)
  · exact hS2.heap (hS1.heap h.2 (by simpa using fun e => hbr e.symm)) (by simp)
set_option maxRecDepth 100000 in
set_option maxHeartbeats 4000000 in
theorem iclone_nil (W : World) : Calls Tryz.prog 33 #[.slice none 0 0] W fun e w' => e = .returned (.slice none 0 0) ∧ W = w' := by
  have hq := fun w a n c => Lib.run_eql_slice_nil (P := Tryz.prog) w 61 88 a n c 0 0 Tryz.underlying61
  go_enter Tryz.func33, Tryz.ntmps33
  go_wp2_with go_in
  go_ret
  exact ⟨rfl, rfl⟩
set_option maxRecDepth 100000 in
set_option maxHeartbeats 4000000 in
theorem rwant_fresh {W : World} {r : Nat} (h : W.heap[r]? = some (.cells #[.int .u8 0, .bool false, .bool true] 139)) : Calls Tryz.prog 34 #[.pointer (some ⟨r, 0, none⟩)] W fun e w' => e = .returned (.tuple #[.int .i64 0, .bool false]) ∧ W = w' := by
  have c0 : W.cell? ⟨r, 0, none⟩ = some (.int .u8 0) := by rw [cell_of_row _ _ _ _ _ _ h]; rfl
  have c1 : W.cell? ⟨r, 1, none⟩ = some (.bool false) := by rw [cell_of_row _ _ _ _ _ _ h]; rfl
  have c2 : W.cell? ⟨r, 2, none⟩ = some (.bool true) := by rw [cell_of_row _ _ _ _ _ _ h]; rfl
  go_enter Tryz.func34, Tryz.ntmps34
  go_wp2_with go_in
  go_ret2
  exact ⟨rfl, rfl⟩
set_option maxRecDepth 100000 in
set_option maxHeartbeats 4000000 in
theorem eview_fresh {w : World} {b r a : Nat} {g n : ByteArray} {p : Bool} (h : FEat w b r a g n p) :
    Calls Tryz.prog 14 #[.pointer (some ⟨b, 0, none⟩)] w fun e w' => e = .returned (.agg #[.string g, .string n, .bool false, .int .i64 0, .int .i64 0, .bool p, .slice none 0 0, .slice none 0 0]) ∧ Own [] w w' := by
  have hP1 := (Own.refl [] w).alloc (.cells #[.string ⟨#[]⟩, .string ⟨#[]⟩, .bool false, .int .i64 0, .int .i64 0, .bool false, .slice none 0 0, .slice none 0 0] 64)
  obtain ⟨c0, c1, c2, c3, c4, c5, c6, c7, c8⟩ := blk9 h.1
  obtain ⟨d0, d1, d2, d3, d4, d5, d6, d7, d8⟩ := blk9 (h.own hP1).1
  go_enter Tryz.func14, Tryz.ntmps14
  have cC := Lib.hid iclone_nil
  go_wp2_with (first | (go_at_call 32; go_in))
  go_region_held3 (fun W' => W'.cell? ⟨b, 0, none⟩ = some (.string g) ∧ W'.cell? ⟨b, 1, none⟩ = some (.string n) ∧ W'.cell? ⟨b, 2, none⟩ = some (.bool false) ∧ W'.cell? ⟨b, 5, none⟩ = some (.bool p) ∧ W'.cell? ⟨b, 6, none⟩ = some (.slice none 0 0)) (go_keep) ((go_at_call 33; ((with_reducible refine (cC.out _).mono ?_); rintro e w2 ⟨rfl, rfl⟩)))
  all_goals
    have hP2 := (hP1.alloc (.cells #[.string g, .string n, .bool false, .int .i64 0, .int .i64 0, .bool p, .slice none 0 0, .slice none 0 0] 64)).drew
    have hF2 := h.own hP2
    have hW := Lib.hid (rwant_fresh hF2.2)
    obtain ⟨e0, e1, e2, e3, e4, e5, e6, e7, e8⟩ := blk9 hF2.1
    go_wp2_with (go_at_call 34; ((with_reducible refine hW.out.mono ?_); rintro e w2 ⟨rfl, rfl⟩))
    refine wp_loop_rounds 1 ?_
    rw [rounds_succ]
    go_wp2_with fail
    have hO := (((Own.refl [] w).alloc (.cells #[.string g, .string n, .bool false, .int .i64 0, .int .i64 0, .bool p, .slice none 0 0, .slice none 0 0] 64)).alloc (.cells #[.string g, .string n, .bool false, .int .i64 0, .int .i64 0, .bool p, .slice none 0 0, .slice none 0 0] 64)).drew
    have hO2 := ((Own.refl [] (w.alloc (.cells #[.string g, .string n, .bool false, .int .i64 0, .int .i64 0, .bool p, .slice none 0 0, .slice none 0 0] 64))).alloc (.cells #[.string g, .string n, .bool false, .int .i64 0, .int .i64 0, .bool p, .slice none 0 0, .slice none 0 0] 64)).drew
    obtain ⟨g0, g1, g2, g3, g4, g5, g6, g7⟩ := blk8 (hO2.heap (heap_alloc_new w _) (by simp))
    refine bodyPost_ret (v := .agg #[.string g, .string n, .bool false, .int .i64 0, .int .i64 0, .bool p, .slice none 0 0, .slice none 0 0]) (by simp [results, Tryz.results14, go_sem, g0, g1, g2, g3, g4, g5, g6, g7]; try rfl) rfl ⟨rfl, hO⟩
end Go.Proofs.YtecociaolohfmaaGreatDoor
