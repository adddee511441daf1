/- TrieZero: one that nobody made wants nothing. -/
import Derived.Test.YtamclcdcpaiojaaDoorTrieAwake
import Derived.Test.YtamclcdcpaiojaaDoorFlat
import Derived.Test.YtamclcdcpaiojaaDoorArgs
import Derived.OpenShut
import Derived.Deep.DeepHandedRow
import Derived.ProofKit
import Derived.Below
namespace Go.Proofs.YtamclcdcpaiojaaDoor
open Go.RowKit Go.ChangeShapes Go.WideShapes Go.Lib Go.Shelf Go.Sort

def filtKinds : List CK := [.str, .int .i64]
theorem filt_flat : flat Tryd.prog 3 26 = some filtKinds := by kernel_rfl
set_option maxRecDepth 100000 in
theorem open_filt {H : Type} {enc : TypeId × Value → H} {w : World} {r : Reach} {b0 : Nat} {fuel : Nat} {v : Value} {x : DataW H × List MemPlace} (hv : Value.okWide Tryd.prog w r b0 26 v)
    (h : DataW.trod enc Tryd.prog w 0 (fun _ => true) true fuel 26 (Value.cells v).toList = some x) : ∃ a : (ByteArray × Int), v = .agg #[.string a.1, .int .i64 a.2] := by
  obtain ⟨cs, rfl, _⟩ := okWide_struct Tryd.underlying26 hv
  have hf := flat_fits 3 filt_flat h
  obtain ⟨hl, hf⟩ := hf
  simp [Value.cells] at hl hf
  obtain ⟨l, hcs⟩ : ∃ l : List Value, cs = l.toArray := ⟨cs.toList, by simp⟩
  subst hcs
  match l, hl with
  | [v0, v1], _ =>
    obtain ⟨s0, rfl, _⟩ := hf 0 _ _ rfl rfl
    obtain ⟨n1, rfl, _⟩ := hf 1 _ _ rfl rfl
    exact ⟨(s0, n1), rfl⟩

theorem none_n (w : World) : Calls Tryd.prog 19 #[.pointer none] w fun e w' => e = .returned (.bool true) ∧ w = w' := by
  go_enter Tryd.func19, Tryd.ntmps19
  go_wp2_with fail
  go_ret
  exact ⟨rfl, rfl⟩
set_option maxRecDepth 100000 in
theorem drop_n (k : Int) (s : ByteArray) (w : World) : Calls Tryd.prog 16 #[.pointer none, .int .i64 k, .string s] w fun e w' => e = .returned (.bool false) ∧ w = w' := by
  have hz := Lib.hid (none_n w)
  go_enter Tryd.func16, Tryd.ntmps16
  go_wp2_with (go_at_call 19; refine hz.out.mono ?_; rintro e w' ⟨rfl, rfl⟩)
  go_ret
  exact ⟨rfl, rfl⟩
set_option maxRecDepth 100000 in
theorem of_n (k : Int) (w : World) : Calls Tryd.prog 10 #[.pointer none, .int .i64 k] w fun e w' => e = .returned (.slice none 0 0) ∧ w = w' := by
  have hz := Lib.hid (none_n w)
  go_enter Tryd.func10, Tryd.ntmps10
  go_wp2_with (go_at_call 19; refine hz.out.mono ?_; rintro e w' ⟨rfl, rfl⟩)
  go_ret
  exact ⟨rfl, rfl⟩
set_option maxRecDepth 100000 in
theorem len_n (w : World) : Calls Tryd.prog 13 #[.pointer none] w fun e w' => e = .returned (.int .i64 0) ∧ w = w' := by
  have hz := Lib.hid (none_n w)
  go_enter Tryd.func13, Tryd.ntmps13
  go_wp2_with (go_at_call 19; refine hz.out.mono ?_; rintro e w' ⟨rfl, rfl⟩)
  go_ret
  exact ⟨rfl, rfl⟩
set_option maxRecDepth 100000 in
theorem hits_n (s : ByteArray) (w : World) : Calls Tryd.prog 12 #[.pointer none, .string s] w fun e w' => e = .returned (.slice none 0 0) ∧ w = w' := by
  have hz := Lib.hid (none_n w)
  go_enter Tryd.func12, Tryd.ntmps12
  go_wp2_with (go_at_call 19; refine hz.out.mono ?_; rintro e w' ⟨rfl, rfl⟩)
  go_ret
  exact ⟨rfl, rfl⟩
set_option maxRecDepth 100000 in
theorem add_n (k : Int) (s : ByteArray) (q : Int) (w : World) : Calls Tryd.prog 8 #[.pointer none, .int .i64 k, .agg #[.string s, .int .i64 q]] w fun e w' => e = .returned (.tuple #[.bool false, .int .i64 8]) ∧ Own [] w w' := by
  have hA : Own [] w (w.alloc (.cells #[.string s, .int .i64 q] 26)) := (Own.refl _ _).alloc _
  have hz := Lib.hid (none_n (w.alloc (.cells #[.string s, .int .i64 q] 26)))
  replace hA := Lib.hid hA
  go_enter Tryd.func8, Tryd.ntmps8
  go_wp2_with (go_at_call 19; refine hz.out.mono ?_; rintro e w' ⟨rfl, rfl⟩)
  go_ret2
  exact ⟨rfl, hA.out⟩
set_option maxRecDepth 100000 in
set_option maxHeartbeats 1000000 in
theorem clear_n (k : Int) (w : World) : Calls Tryd.prog 17 #[.pointer none, .int .i64 k] w fun e w' => e = .returned (.int .i64 0) ∧ w = w' := by
  have hz := Lib.hid (of_n k w)
  go_enter Tryd.func17, Tryd.ntmps17
  go_wp2_with (go_at_call 10; refine hz.out.mono ?_; rintro e w' ⟨rfl, rfl⟩)
  refine wp_loop_rounds 1 ?_
  rw [rounds_succ]
  go_wp2_with fail
  go_ret
  exact ⟨rfl, rfl⟩
theorem none_z (z : Nat) (w : World) (hc : w.cell? ⟨z, 0, none⟩ = some (.pointer none)) : Calls Tryd.prog 19 #[.pointer (some ⟨z, 0, none⟩)] w fun e w' => e = .returned (.bool true) ∧ w = w' := by
  go_enter Tryd.func19, Tryd.ntmps19
  go_wp2_with fail
  go_ret
  exact ⟨rfl, rfl⟩
set_option maxRecDepth 100000 in
theorem drop_z (z : Nat) (k : Int) (s : ByteArray) (w : World) (hc : w.cell? ⟨z, 0, none⟩ = some (.pointer none)) : Calls Tryd.prog 16 #[.pointer (some ⟨z, 0, none⟩), .int .i64 k, .string s] w fun e w' => e = .returned (.bool false) ∧ w = w' := by
  have hz := Lib.hid (none_z z w hc)
  clear hc
  go_enter Tryd.func16, Tryd.ntmps16
  go_wp2_with (go_at_call 19; refine hz.out.mono ?_; rintro e w' ⟨rfl, rfl⟩)
  go_ret
  exact ⟨rfl, rfl⟩
set_option maxRecDepth 100000 in
theorem of_z (z : Nat) (k : Int) (w : World) (hc : w.cell? ⟨z, 0, none⟩ = some (.pointer none)) : Calls Tryd.prog 10 #[.pointer (some ⟨z, 0, none⟩), .int .i64 k] w fun e w' => e = .returned (.slice none 0 0) ∧ w = w' := by
  have hz := Lib.hid (none_z z w hc)
  clear hc
  go_enter Tryd.func10, Tryd.ntmps10
  go_wp2_with (go_at_call 19; refine hz.out.mono ?_; rintro e w' ⟨rfl, rfl⟩)
  go_ret
  exact ⟨rfl, rfl⟩
set_option maxRecDepth 100000 in
theorem len_z (z : Nat) (w : World) (hc : w.cell? ⟨z, 0, none⟩ = some (.pointer none)) : Calls Tryd.prog 13 #[.pointer (some ⟨z, 0, none⟩)] w fun e w' => e = .returned (.int .i64 0) ∧ w = w' := by
  have hz := Lib.hid (none_z z w hc)
  clear hc
  go_enter Tryd.func13, Tryd.ntmps13
  go_wp2_with (go_at_call 19; refine hz.out.mono ?_; rintro e w' ⟨rfl, rfl⟩)
  go_ret
  exact ⟨rfl, rfl⟩
set_option maxRecDepth 100000 in
theorem hits_z (z : Nat) (s : ByteArray) (w : World) (hc : w.cell? ⟨z, 0, none⟩ = some (.pointer none)) : Calls Tryd.prog 12 #[.pointer (some ⟨z, 0, none⟩), .string s] w fun e w' => e = .returned (.slice none 0 0) ∧ w = w' := by
  have hz := Lib.hid (none_z z w hc)
  clear hc
  go_enter Tryd.func12, Tryd.ntmps12
  go_wp2_with (go_at_call 19; refine hz.out.mono ?_; rintro e w' ⟨rfl, rfl⟩)
  go_ret
  exact ⟨rfl, rfl⟩
set_option maxRecDepth 100000 in
theorem add_z (z : Nat) (k : Int) (s : ByteArray) (q : Int) (w : World) (hc : w.cell? ⟨z, 0, none⟩ = some (.pointer none)) : Calls Tryd.prog 8 #[.pointer (some ⟨z, 0, none⟩), .int .i64 k, .agg #[.string s, .int .i64 q]] w fun e w' => e = .returned (.tuple #[.bool false, .int .i64 8]) ∧ Own [] w w' := by
  have hA : Own [] w (w.alloc (.cells #[.string s, .int .i64 q] 26)) := (Own.refl _ _).alloc _
  have hz := Lib.hid (none_z z (w.alloc (.cells #[.string s, .int .i64 q] 26)) ((hA.cell (block_lt_of_cell hc) (by simp)).trans hc))
  replace hA := Lib.hid hA
  clear hc
  go_enter Tryd.func8, Tryd.ntmps8
  go_wp2_with (go_at_call 19; refine hz.out.mono ?_; rintro e w' ⟨rfl, rfl⟩)
  go_ret2
  exact ⟨rfl, hA.out⟩
set_option maxRecDepth 100000 in
set_option maxHeartbeats 1000000 in
theorem clear_z (z : Nat) (k : Int) (w : World) (hc : w.cell? ⟨z, 0, none⟩ = some (.pointer none)) : Calls Tryd.prog 17 #[.pointer (some ⟨z, 0, none⟩), .int .i64 k] w fun e w' => e = .returned (.int .i64 0) ∧ w = w' := by
  have hz := Lib.hid (of_z z k w hc)
  clear hc
  go_enter Tryd.func17, Tryd.ntmps17
  go_wp2_with (go_at_call 10; refine hz.out.mono ?_; rintro e w' ⟨rfl, rfl⟩)
  refine wp_loop_rounds 1 ?_
  rw [rounds_succ]
  go_wp2_with fail
  go_ret
  exact ⟨rfl, rfl⟩

set_option maxRecDepth 100000 in
set_option maxHeartbeats 4000000 in
theorem zero_walk (k : Int) (f : ByteArray × Int) (w : World) (_h0 : (Lit.int .i64 k).wf = true) (hT : Tabs w) :
    Calls Tryd.prog 6 #[.int .i64 k, .agg #[.string f.1, .int .i64 f.2]] w fun e w' => e = .returned (.bool true) ∧ Below w.heap.size w w' := by
  obtain ⟨s, q⟩ := f
  simp only
  have hA0 : Own [] w (w.alloc (.cells #[.string s, .int .i64 q] 26)) := (Own.refl _ _).alloc _
  have hr0 : (w.alloc (.cells #[.string s, .int .i64 q] 26)).heap[w.heap.size]? = some (.cells #[.string s, .int .i64 q] 26 (0, 0)) := heap_alloc_new _ _
  replace hA0 := Lib.hid hA0
  replace hr0 := Lib.hid hr0
  replace hT := Lib.hid hT
  go_enter Tryd.func6, Tryd.ntmps6
  go_wp2_with fail
  obtain ⟨W1, hW1⟩ : ∃ W1 : World, (w.alloc (.cells #[.string s, .int .i64 q] 26)).alloc (.cells #[.pointer none, .int .i64 0, .int .i64 0, .int .i64 0, .int .i64 0, .int .i64 0, .int .i64 0, .int .i64 0, .int .i64 0] 50) = W1 := ⟨_, rfl⟩
  have hO1 : Own [] w W1 := hW1 ▸ hA0.out.alloc _
  have hr1 : W1.heap[w.heap.size]? = some (.cells #[.string s, .int .i64 q] 26 (0, 0)) := hW1 ▸ ((Own.refl [] _).alloc _).heap hr0.out (by simp)
  have hz1 : W1.heap[w.heap.size + 1]? = some (.cells #[.pointer none, .int .i64 0, .int .i64 0, .int .i64 0, .int .i64 0, .int .i64 0, .int .i64 0, .int .i64 0, .int .i64 0] 50 (0, 0)) := by
    rw [← hW1]
    have := heap_alloc_new (w.alloc (.cells #[.string s, .int .i64 q] 26)) (.cells #[.pointer none, .int .i64 0, .int .i64 0, .int .i64 0, .int .i64 0, .int .i64 0, .int .i64 0, .int .i64 0, .int .i64 0] 50)
    simpa using this
  rw [hW1]
  obtain ⟨fb, hfb⟩ : ∃ fb, w.heap.size = fb := ⟨_, rfl⟩
  have hS1 : ∀ W, Own [] W1 W → W.cell? ⟨fb, 0, none⟩ = some (.string s) ∧ W.cell? ⟨fb, 1, none⟩ = some (.int .i64 q) ∧ W.cell? ⟨fb + 1, 0, none⟩ = some (.pointer none) := fun W ho => by
    rw [← hfb]
    exact ⟨cell_of_row W _ 0 _ _ _ (ho.heap hr1 (by simp)), cell_of_row W _ 1 _ _ _ (ho.heap hr1 (by simp)), cell_of_row W _ 0 _ _ _ (ho.heap hz1 (by simp))⟩
  have cA := Lib.hid (add_n k s q W1)
  have cB := fun W (ho : Own [] W1 W) => add_z (fb + 1) k s q W (hS1 W ho).2.2
  rw [hfb]
  replace cB := Lib.hid cB
  replace hS1 := Lib.hid hS1
  replace hO1 := Lib.hid hO1
  replace hfb := Lib.hid hfb
  clear hW1 hr1 hz1 hA0 hr0
  go_wp2_with fail
  refine cA.out.mono ?_
  rintro e w2 ⟨rfl, hO2⟩
  obtain ⟨d0, d1, d2⟩ := hS1.out w2 hO2
  go_wp2_with fail
  refine (cB.out w2 hO2).mono ?_
  rintro e w3 ⟨rfl, hO3⟩
  have hO3' : Own [] W1 w3.drew := (hO2.trans hO3).drew
  obtain ⟨e0, e1, e2⟩ := hS1.out _ hO3'
  have hTd := hT.out.own (hO1.out.trans hO3') (by simp)
  have cW := tawake_any w3.drew hTd
  replace cW := Lib.hid cW
  replace hO3' := Lib.hid hO3'
  clear hO2 hO3 d0 d1 d2
  have hS0 := And.intro e0 e2
  go_wp2_with fail
  go_region_held3 (fun W => W.cell? ⟨fb, 0, none⟩ = some (.string s) ∧ W.cell? ⟨fb + 1, 0, none⟩ = some (.pointer none))
    (first | exact hS0 | exact kA | go_keep)
    ((first
      | (go_at_call 16; first | (with_reducible refine (drop_n _ _ _).mono ?_; rintro e w' ⟨rfl, rfl⟩) | (with_reducible refine (drop_z _ _ _ _ e2).mono ?_; rintro e w' ⟨rfl, rfl⟩))
      | (go_at_call 17; first | (with_reducible refine (clear_n _ _).mono ?_; rintro e w' ⟨rfl, rfl⟩) | (with_reducible refine (clear_z _ _ _ e2).mono ?_; rintro e w' ⟨rfl, rfl⟩))
      | (go_at_call 13; first | (with_reducible refine (len_n _).mono ?_; rintro e w' ⟨rfl, rfl⟩) | (with_reducible refine (len_z _ _ e2).mono ?_; rintro e w' ⟨rfl, rfl⟩))
      | (go_at_call 10; first | (with_reducible refine (of_n _ _).mono ?_; rintro e w' ⟨rfl, rfl⟩))
      | (go_at_call 12; first | (with_reducible refine (hits_z _ _ _ e2).mono ?_; rintro e w' ⟨rfl, rfl⟩))
      | (go_at_call 14; refine cW.out.mono ?_; rintro e w9 ⟨rfl, hO9⟩; have hO9' := Lib.hid (hO3'.out.trans hO9); have kA := And.intro (hS1.out w9 hO9'.out).1 (hS1.out w9 hO9'.out).2.2)))
  all_goals
    go_wp2_with fail
    go_ret
    exact ⟨rfl, (hO1.out.trans hO9'.out).below (Nat.le_refl _) (by simp)⟩
end Go.Proofs.YtamclcdcpaiojaaDoor
