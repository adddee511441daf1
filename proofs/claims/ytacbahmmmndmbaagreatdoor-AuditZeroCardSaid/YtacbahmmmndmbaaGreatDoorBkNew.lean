/- A broker that was just made: its blocks. -/
import Derived.Test.YtacbahmmmndmbaaGreatDoorSpNew2
set_option linter.unusedSimpArgs false
set_option linter.unusedVariables false
namespace Go.Proofs.YtacbahmmmndmbaaGreatDoor
open Go.RowKit

/-- The slots of sessions.New. -/
def ssNone : Array Value := #[.pointer none, .bool false, .pointer none, .bool false, .pointer none, .bool false, .pointer none, .bool false, .pointer none, .bool false, .pointer none, .bool false, .pointer none, .bool false, .pointer none, .bool false, .bool true]
set_option maxRecDepth 100000 in
theorem sessNew (W : World) : Calls Tryz.prog 77 #[] W fun e w' => ∃ s, e = .returned (Ptr s) ∧ w'.heap[s]? = some (.cells ssNone 158 (0, 0)) ∧ Own [] W w' ∧ W.heap.size ≤ s := by
  go_enter Tryz.func77, Tryz.ntmps77
  go_wp2_with fail
  go_ret
  exact ⟨_, rfl, heap_alloc_new _ _, (Own.refl _ _).alloc _, Nat.le_refl _⟩
theorem keepNew (W : World) : Calls Tryz.prog 79 #[] W fun e w' => ∃ s m, e = .returned (Ptr s) ∧ w'.heap[s]? = some (.cells #[.map (some m)] 242 (0, 0)) ∧ MapS Value.string w' m [] ∧ Own [] W w' ∧ W.heap.size ≤ s ∧ W.heap.size ≤ m := by
  have hmm := @run_makeMap Tryz.prog
  go_enter Tryz.func79, Tryz.ntmps79
  go_wp2_with fail
  go_ret
  exact ⟨W.heap.size + 1, W.heap.size, rfl, heap_alloc2_new _ _ _, (MapS.made W).of_heap (by rw [Below.heap_alloc _ _ _ (by simp)]), ((Own.refl _ _).alloc _).alloc _, by omega, Nat.le_refl _⟩
theorem dueNew (W : World) : Calls Tryz.prog 80 #[] W fun e w' => ∃ s q m, e = .returned (Ptr s) ∧ w'.heap[s]? = some (.cells #[Ptr q] 226 (0, 0)) ∧ w'.heap[q]? = some (.cells #[.slice none 0 0, .map (some m)] 268 (0, 0)) ∧ MapS (Value.int .i64) w' m [] ∧ Own [] W w' ∧ W.heap.size ≤ s ∧ W.heap.size ≤ q ∧ W.heap.size ≤ m := by
  have hmm := @run_makeMap Tryz.prog
  go_enter Tryz.func80, Tryz.ntmps80
  go_wp2_with fail
  go_ret
  have e1 : (((W.alloc (.map #[] 0)).alloc (.cells #[.slice none 0 0, .map (some W.heap.size)] 268)).alloc (.cells #[Ptr (W.heap.size + 1)] 226)).heap[W.heap.size + 1]? = some (.cells #[.slice none 0 0, .map (some W.heap.size)] 268 (0, 0)) := by
    rw [Below.heap_alloc _ _ _ (by simp)]; exact heap_alloc2_new _ _ _
  have e0 : (((W.alloc (.map #[] 0)).alloc (.cells #[.slice none 0 0, .map (some W.heap.size)] 268)).alloc (.cells #[Ptr (W.heap.size + 1)] 226)).heap[W.heap.size]? = (W.alloc (.map #[] 0)).heap[W.heap.size]? :=
    (Below.heap_alloc _ _ _ (by simp; omega)).trans (Below.heap_alloc _ _ _ (by simp))
  have e2 := heap_alloc2_new (W.alloc (.map #[] 0)) (.cells #[.slice none 0 0, .map (some W.heap.size)] 268) (.cells #[Ptr (W.heap.size + 1)] 226)
  simp only [World.size_alloc] at e2
  exact ⟨W.heap.size + 1 + 1, W.heap.size + 1, W.heap.size, rfl, e2, e1, (MapS.made W).of_heap e0, (((Own.refl _ _).alloc _).alloc _).alloc _, by omega, by omega, Nat.le_refl _⟩
theorem trieNew (W : World) : Calls Tryz.prog 78 #[] W fun e w' => ∃ s, e = .returned (Ptr s) ∧ True ∧ Own [] W w' ∧ W.heap.size ≤ s := by
  have hmm := @run_makeMap Tryz.prog
  go_enter Tryz.func78, Tryz.ntmps78
  go_wp2_with go_in
  go_ret
  exact ⟨_, rfl, trivial, ((((Own.refl _ _).alloc _).alloc _).alloc _).alloc _, by omega⟩

/-- The cells of a broker that was just made. -/
def bkCells (se tr ke du sp : Nat) : Array Value := #[.pointer none, .int .i64 0, .int .i64 (-1), .pointer none, .int .i64 0, .int .i64 (-1), .pointer none, .int .i64 0, .int .i64 (-1), .pointer none, .int .i64 0, .int .i64 (-1), .pointer none, .int .i64 0, .int .i64 (-1), .pointer none, .int .i64 0, .int .i64 (-1), .pointer none, .int .i64 0, .int .i64 (-1), .pointer none, .int .i64 0, .int .i64 (-1),
  .slice none 0 0, Ptr se, Ptr tr, Ptr ke, Ptr du, Ptr sp, .int .i64 0, .slice none 0 0, .slice none 0 0, .int .i64 0, .int .i64 0, .int .i64 0, .int .i64 0, .int .i64 0]
/-- A broker that was just made; Q: what its trie is. -/
structure BN (Q : World → Nat → Prop) (w : World) (p se tr ke km du dq dm sp m h hm bb r : Nat) : Prop where
  bp : w.heap[p]? = some (.cells (bkCells se tr ke du sp) 40 (0, 0))
  ss : w.heap[se]? = some (.cells ssNone 158 (0, 0))
  tr : Q w tr
  ke : w.heap[ke]? = some (.cells #[.map (some km)] 242 (0, 0))
  km : MapS Value.string w km []
  du : w.heap[du]? = some (.cells #[Ptr dq] 226 (0, 0))
  dq : w.heap[dq]? = some (.cells #[.slice none 0 0, .map (some dm)] 268 (0, 0))
  dm : MapS (Value.int .i64) w dm []
  sp : SN w sp m h hm bb r
section
variable {Q : World → Nat → Prop} {w w' : World} {p se tr ke km du dq dm sp m h hm bb r : Nat}
theorem BN.own (hQ : ∀ w w' t, Q w t → Own [] w w' → Q w' t) (H : BN Q w p se tr ke km du dq dm sp m h hm bb r) (ho : Own [] w w') : BN Q w' p se tr ke km du dq dm sp m h hm bb r :=
  ⟨ho.heap H.bp (by simp), ho.heap H.ss (by simp), hQ _ _ _ H.tr ho, ho.heap H.ke (by simp), H.km.own ho (by simp), ho.heap H.du (by simp), ho.heap H.dq (by simp), H.dm.own ho (by simp), H.sp.own ho⟩
end
set_option maxRecDepth 100000 in
set_option maxHeartbeats 8000000 in
theorem bnew_any {Q : World → Nat → Prop} (hQ : ∀ w w' t, Q w t → Own [] w w' → Q w' t) (cT : ∀ W, Calls Tryz.prog 78 #[] W fun e w' => ∃ s, e = .returned (Ptr s) ∧ Q w' s ∧ Own [] W w' ∧ W.heap.size ≤ s) (W : World) :
    Calls Tryz.prog 38 #[] W fun e w' => ∃ p se tr ke km du dq dm sp m h hm bb r, e = .returned (Ptr p) ∧ BN Q w' p se tr ke km du dq dm sp m h hm bb r ∧ Own [] W w' ∧ W.heap.size ≤ p := by
  have cS := Lib.hid (fun W => sessNew W)
  replace cT := Lib.hid cT
  have cK := Lib.hid (fun W => keepNew W)
  have cD := Lib.hid (fun W => dueNew W)
  have cP := Lib.hid (fun W => sparkNew2 W)
  go_enter Tryz.func38, Tryz.ntmps38
  go_wp2_with fail
  with_reducible refine (cS.out _).mono ?_
  rintro e w1 ⟨se, rfl, hS, hO1, _⟩
  replace hS := Lib.hid hS
  replace hO1 := Lib.hid hO1
  go_wp2_with fail
  with_reducible refine (cT.out _).mono ?_
  rintro e w2 ⟨tr, rfl, hT, hO2, _⟩
  have hS2 := Lib.hid (hO2.heap hS.out (by simp))
  replace hT := Lib.hid hT
  replace hO2 := Lib.hid (hO1.out.trans hO2)
  clear hS hO1
  go_wp2_with fail
  with_reducible refine (cK.out _).mono ?_
  rintro e w3 ⟨ke, km, rfl, hK, hKm, hO3, _, _⟩
  have hS3 := Lib.hid (hO3.heap hS2.out (by simp))
  have hT3 := Lib.hid (hQ _ _ _ hT.out hO3)
  have hK3 := Lib.hid (And.intro hK hKm)
  replace hO3 := Lib.hid (hO2.out.trans hO3)
  clear hS2 hT hK hKm hO2
  go_wp2_with fail
  with_reducible refine (cD.out _).mono ?_
  rintro e w4 ⟨du, dq, dm, rfl, hD, hDq, hDm, hO4, _, _, _⟩
  have hS4 := Lib.hid (hO4.heap hS3.out (by simp))
  have hT4 := Lib.hid (hQ _ _ _ hT3.out hO4)
  have hK4 := Lib.hid (And.intro (hO4.heap hK3.out.1 (by simp)) (hK3.out.2.own hO4 (by simp)))
  have hD4 := Lib.hid (And.intro hD (And.intro hDq hDm))
  replace hO4 := Lib.hid (hO3.out.trans hO4)
  clear hS3 hT3 hK3 hD hDq hDm hO3
  go_wp2_with fail
  with_reducible refine (cP.out _).mono ?_
  rintro e w5 ⟨sp, m, h, hm, bb, r, rfl, hP, hO5, _, _, _⟩
  have hS5 := Lib.hid (hO5.heap hS4.out (by simp))
  have hT5 := Lib.hid (hQ _ _ _ hT4.out hO5)
  have hK5 := Lib.hid (And.intro (hO5.heap hK4.out.1 (by simp)) (hK4.out.2.own hO5 (by simp)))
  have hD5 := Lib.hid (And.intro (hO5.heap hD4.out.1 (by simp)) (And.intro (hO5.heap hD4.out.2.1 (by simp)) (hD4.out.2.2.own hO5 (by simp))))
  replace hP := Lib.hid hP
  have hz5 := Lib.hid (hO4.out.trans hO5).size
  replace hO5 := Lib.hid (hO4.out.trans hO5)
  clear hS4 hT4 hK4 hD4 hO4 cS cT cK cD cP
  go_wp2_with fail
  refine wp_loop_rounds 9 ?_
  rw [rounds_succ]
  go_wp2_with fail
  rw [rounds_succ]
  go_wp2_with fail
  rw [rounds_succ]
  go_wp2_with fail
  rw [rounds_succ]
  go_wp2_with fail
  rw [rounds_succ]
  go_wp2_with fail
  rw [rounds_succ]
  go_wp2_with fail
  rw [rounds_succ]
  go_wp2_with fail
  rw [rounds_succ]
  go_wp2_with fail
  rw [rounds_succ]
  go_wp2_with fail
  go_ret
  have hA := (Own.refl [] w5).alloc (.cells (bkCells se tr ke du sp) 40)
  exact ⟨_, se, tr, ke, km, du, dq, dm, sp, m, h, hm, bb, r, rfl, ⟨heap_alloc_new _ _, hA.heap hS5.out (by simp), hQ _ _ _ hT5.out hA, hA.heap hK5.out.1 (by simp), hK5.out.2.own hA (by simp), hA.heap hD5.out.1 (by simp), hA.heap hD5.out.2.1 (by simp), hD5.out.2.2.own hA (by simp), hP.out.own hA⟩, hO5.out.trans hA, hz5.out⟩
end Go.Proofs.YtacbahmmmndmbaaGreatDoor
