/- The document's trie (crierref19) in memory: Add. -/
import Derived.Test.YtldagaliddgdjaaGreatDoorMrg6
import Derived.Deep.RegionLaw
import Derived.Test.YtldagaliddgdjaaGreatDoorTrieGather
namespace Go.Proofs.YtldagaliddgdjaaGreatDoor
open Go.RowKit Go.Lib Go.Shelf Go.Sort

def WAdds (xb : Nat) (v : Value) (r : Ws) (who : Int) (s : ByteArray) (q : Int) (w : World) : Prop :=
  Calls Tryz.prog 17 #[.pointer (some ⟨xb, 0, none⟩), .int .i64 who, .agg #[.string s, .int .i64 q]] w fun e w' =>
    e = .returned (.tuple #[.bool (dAdd r who s q).1.1, .int .i64 (dAdd r who s q).1.2]) ∧ WEnd w xb v (dAdd r who s q).2 w'
set_option maxRecDepth 100000 in
set_option maxHeartbeats 4000000 in
theorem wadd_who (xb : Nat) (v : Value) (r : Ws) (who : Int) (s : ByteArray) (q : Int) (w : World) (h : WS w xb v r) (hw : who < 0 ∨ 8 ≤ who) : WAdds xb v r who s q w := by
  unfold WAdds dAdd
  rw [if_pos hw]
  have hA : Own [] w (w.alloc (.cells #[.string s, .int .i64 q] 32)) := (Own.refl _ _).alloc _
  have hend := Lib.hid (fun w' (ho : Own [] w w') => wend_none h ho)
  replace hA := Lib.hid hA
  clear h
  by_cases h1 : who < 0
  · clear hw
    go_enter Tryz.func17, Tryz.ntmps17
    go_wp2_with fail
    go_ret2
    exact ⟨rfl, hend.out _ hA.out⟩
  · have h2 : 8 ≤ who := by omega
    clear hw
    go_enter Tryz.func17, Tryz.ntmps17
    go_wp2_with fail
    go_ret2
    exact ⟨rfl, hend.out _ hA.out⟩
set_option maxRecDepth 100000 in
set_option maxHeartbeats 4000000 in
theorem wadd_filter (xb : Nat) (v : Value) (r : Ws) (who : Int) (s : ByteArray) (q : Int) (w : World) (h : WS w xb v r) (h0 : 0 ≤ who) (h8 : who < 8) (hf : lvFilter s = false) : WAdds xb v r who s q w := by
  unfold WAdds dAdd
  rw [if_neg (by omega), if_pos hf]
  have hA : Own [] w (w.alloc (.cells #[.string s, .int .i64 q] 32)) := (Own.refl _ _).alloc _
  have cF := dfilter_any s (w.alloc (.cells #[.string s, .int .i64 q] 32))
  rw [hf] at cF
  have hend := Lib.hid (fun w' (ho : Own [] w w') => wend_none h ho)
  replace hA := Lib.hid hA
  replace cF := Lib.hid cF
  have h1 : ¬ who < 0 := by omega
  have h2 : ¬ 8 ≤ who := by omega
  clear h hf
  go_enter Tryz.func17, Tryz.ntmps17
  go_wp2_with (go_at_call 38; (with_reducible refine cF.out.mono ?_); rintro e w2 ⟨rfl, hO2⟩; replace hO2 := Lib.hid (hA.out.trans hO2))
  go_ret2
  exact ⟨rfl, hend.out _ hO2.out⟩
set_option maxRecDepth 100000 in
set_option maxHeartbeats 4000000 in
theorem wadd_range (xb : Nat) (v : Value) (r : Ws) (who : Int) (s : ByteArray) (q : Int) (w : World) (h : WS w xb v r) (h0 : 0 ≤ who) (h8 : who < 8) (hf : lvFilter s = true) (hq : q < 0 ∨ 2 < q) : WAdds xb v r who s q w := by
  unfold WAdds dAdd
  rw [if_neg (by omega), if_neg (by rw [hf]; simp), if_pos hq]
  have hA : Own [] w (w.alloc (.cells #[.string s, .int .i64 q] 32)) := (Own.refl _ _).alloc _
  have hrow : (w.alloc (.cells #[.string s, .int .i64 q] 32)).heap[w.heap.size]? = some (.cells #[.string s, .int .i64 q] 32 (0, 0)) := heap_alloc_new _ _
  have cF := dfilter_any s (w.alloc (.cells #[.string s, .int .i64 q] 32))
  rw [hf] at cF
  have hC : ∀ W, Own [] (w.alloc (.cells #[.string s, .int .i64 q] 32)) W → W.cell? ⟨w.heap.size, 0, none⟩ = some (.string s) ∧ W.cell? ⟨w.heap.size, 1, none⟩ = some (.int .i64 q) := fun W ho => ⟨cell_of_row W _ 0 _ _ _ (ho.heap hrow (by simp)), cell_of_row W _ 1 _ _ _ (ho.heap hrow (by simp))⟩
  have hend := Lib.hid (fun w' (ho : Own [] w w') => wend_none h ho)
  replace hA := Lib.hid hA
  replace cF := Lib.hid cF
  replace hC := Lib.hid hC
  have h1 : ¬ who < 0 := by omega
  have h2 : ¬ 8 ≤ who := by omega
  clear h hf hrow
  by_cases hq1 : q < 0
  · clear hq
    go_enter Tryz.func17, Tryz.ntmps17
    go_wp2_with (go_at_call 38; (with_reducible refine cF.out.mono ?_); rintro e w2 ⟨rfl, hO2⟩; obtain ⟨d0, d1⟩ := hC.out _ hO2; replace hO2 := Lib.hid (hA.out.trans hO2))
    go_ret2
    exact ⟨rfl, hend.out _ hO2.out⟩
  · have hq2 : 2 < q := by omega
    clear hq
    go_enter Tryz.func17, Tryz.ntmps17
    go_wp2_with (go_at_call 38; (with_reducible refine cF.out.mono ?_); rintro e w2 ⟨rfl, hO2⟩; obtain ⟨d0, d1⟩ := hC.out _ hO2; replace hO2 := Lib.hid (hA.out.trans hO2))
    go_ret2
    exact ⟨rfl, hend.out _ hO2.out⟩
set_option maxRecDepth 100000 in
set_option maxHeartbeats 4000000 in
theorem wadd_full (xb : Nat) (v : Value) (r : Ws) (who : Int) (s : ByteArray) (q : Int) (w : World) (h : WS w xb v r) (hl : r.length ≤ 1000) (h0 : 0 ≤ who) (h8 : who < 8) (hf : lvFilter s = true) (hq0 : 0 ≤ q) (hq2 : q ≤ 2) (hs : ¬ wPos r who s < r.length) (hc : 16 ≤ wCount r who) : WAdds xb v r who s q w := by
  unfold WAdds dAdd
  rw [if_neg (by omega), if_neg (by rw [hf]; simp), if_neg (by omega), if_neg hs, if_pos hc]
  have hA : Own [] w (w.alloc (.cells #[.string s, .int .i64 q] 32)) := (Own.refl _ _).alloc _
  have hrow : (w.alloc (.cells #[.string s, .int .i64 q] 32)).heap[w.heap.size]? = some (.cells #[.string s, .int .i64 q] 32 (0, 0)) := heap_alloc_new _ _
  have cF := dfilter_any s (w.alloc (.cells #[.string s, .int .i64 q] 32))
  rw [hf] at cF
  have hC : ∀ W, Own [] (w.alloc (.cells #[.string s, .int .i64 q] 32)) W → W.cell? ⟨w.heap.size, 0, none⟩ = some (.string s) ∧ W.cell? ⟨w.heap.size, 1, none⟩ = some (.int .i64 q) := fun W ho => ⟨cell_of_row W _ 0 _ _ _ (ho.heap hrow (by simp)), cell_of_row W _ 1 _ _ _ (ho.heap hrow (by simp))⟩
  have cD := fun W (ho : Own [] w W) => wfind_any xb v r who s W (h.nil' ho) hl
  have cN := fun W (ho : Own [] w W) => wcount_any xb v r who W (h.nil' ho) hl
  rw [if_neg hs] at cD
  have hend := Lib.hid (fun w' (ho : Own [] w w') => wend_none h ho)
  generalize wCount r who = cn at cN hc
  have hc2 : (16 : Int) ≤ cn := by omega
  replace hA := Lib.hid hA
  replace cF := Lib.hid cF
  replace cD := Lib.hid cD
  replace cN := Lib.hid cN
  replace hC := Lib.hid hC
  have h1 : ¬ who < 0 := by omega
  have h2 : ¬ 8 ≤ who := by omega
  have h3 : ¬ q < 0 := by omega
  have h4 : ¬ 2 < q := by omega
  clear h hf hrow hs hc
  go_enter Tryz.func17, Tryz.ntmps17
  go_wp2_with (first
    | (go_at_call 38; (with_reducible refine cF.out.mono ?_); rintro e w2 ⟨rfl, hO2⟩; obtain ⟨d0, d1⟩ := hC.out _ hO2; have cD2 := Lib.hid (cD.out _ (hA.out.trans hO2)); replace hO2 := Lib.hid (hA.out.trans hO2))
    | (go_at_call 39; (with_reducible refine cD2.out.mono ?_); rintro e w3 ⟨rfl, hO3⟩; have cN3 := Lib.hid (cN.out _ (hO2.out.trans hO3)); replace hO3 := Lib.hid (hO2.out.trans hO3))
    | (go_at_call 40; (with_reducible refine cN3.out.mono ?_); rintro e w4 ⟨rfl, hO4⟩; replace hO4 := Lib.hid (hO3.out.trans hO4)))
  go_ret2
  exact ⟨rfl, hend.out _ hO4.out⟩
def bare (w : World) : World := { w with heap := #[] }
theorem own_bare (w : World) : Own [] (bare w) w := ⟨rfl, rfl, rfl, Nat.zero_le _, fun k hk => absurd hk (by simp [bare])⟩
theorem wend_app {xb : Nat} {w w5 w6 : World} {v v3 : Value} {r r' : Ws} (h : WS w xb v r) (hO : Own [] w w5) (hS : Sl 69 wEnc 3 0 w6 v3 r') (hX : Own v.ownBlock.toList w5 w6) (hg : ∀ g, v3.ownBlock = some g → v.ownBlock = some g ∨ w5.heap.size ≤ g) :
    WEnd w xb v r' (w6.setCell ⟨xb, 0, none⟩ v3) := by
  have hxl := lt_of_heap h.row
  have hx : xb ∉ v.ownBlock.toList := fun hx => h.ne (Option.mem_toList.1 hx)
  have hrow := hX.heap (hO.heap h.row (by simp)) hx
  have hne : v3.ownBlock ≠ some xb := fun e => by
    rcases hg xb e with h1 | h1
    · exact h.ne h1
    · have := hO.size; omega
  have hO2 : Own [xb] w6 (w6.setCell ⟨xb, 0, none⟩ v3) := (Own.refl _ _).setCell (by simp) _
  refine ⟨v3, ⟨heap_setCell_same _ _ _ _ _ _ hrow, hS.own hO2 (fun g hg => by simp; rintro rfl; exact hne hg), hne⟩, (Own.setCell (S := xb :: v.ownBlock.toList) (p := ⟨xb, 0, none⟩) (hO.nil.trans (hX.mono (fun x hx => List.mem_cons_of_mem _ hx))) (.inl (List.mem_cons_self ..)) _), fun g hg' => ?_⟩
  rcases hg g hg' with h1 | h1
  · exact .inl h1
  · exact .inr (Nat.le_trans hO.size h1)
set_option maxRecDepth 100000 in
set_option maxHeartbeats 4000000 in
theorem wadd_new (xb : Nat) (v : Value) (r : Ws) (who : Int) (s : ByteArray) (q : Int) (w : World) (h : WS w xb v r) (hl : r.length ≤ 1000) (h0 : 0 ≤ who) (h8 : who < 8) (hf : lvFilter s = true) (hq0 : 0 ≤ q) (hq2 : q ≤ 2) (hs : ¬ wPos r who s < r.length) (hc : ¬ 16 ≤ wCount r who) : WAdds xb v r who s q w := by
  unfold WAdds dAdd
  rw [if_neg (by omega), if_neg (by rw [hf]; simp), if_neg (by omega), if_neg hs, if_neg hc]
  have hA : Own [] w (w.alloc (.cells #[.string s, .int .i64 q] 32)) := (Own.refl _ _).alloc _
  have hrow : (w.alloc (.cells #[.string s, .int .i64 q] 32)).heap[w.heap.size]? = some (.cells #[.string s, .int .i64 q] 32 (0, 0)) := heap_alloc_new _ _
  have cF := dfilter_any s (w.alloc (.cells #[.string s, .int .i64 q] 32))
  rw [hf] at cF
  have hC : ∀ W, Own [] (w.alloc (.cells #[.string s, .int .i64 q] 32)) W → W.cell? ⟨w.heap.size, 0, none⟩ = some (.string s) ∧ W.cell? ⟨w.heap.size, 1, none⟩ = some (.int .i64 q) := fun W ho => ⟨cell_of_row W _ 0 _ _ _ (ho.heap hrow (by simp)), cell_of_row W _ 1 _ _ _ (ho.heap hrow (by simp))⟩
  have cD := fun W (ho : Own [] w W) => wfind_any xb v r who s W (h.nil' ho) hl
  have cN := fun W (ho : Own [] w W) => wcount_any xb v r who W (h.nil' ho) hl
  rw [if_neg hs] at cD
  have hK1 : ∀ w', Own [] w w' → w'.cell? ⟨xb, 0, none⟩ = some v := fun w' ho => cell_of_row w' xb 0 _ _ _ (h.nil' ho).row
  have hSl : ∀ w', Own [] w w' → Sl 69 wEnc 3 0 w' v r := fun w' ho => (h.nil' ho).own
  have hXc : ∀ w5 w6, Own [] w w5 → Own v.ownBlock.toList w5 w6 → w6.cell? ⟨xb, 0, none⟩ = some v ∧ w6.frozen? ⟨xb, 0, none⟩ = false := fun w5 w6 ho hx => by
    have hr := hx.heap (ho.heap h.row (by simp)) (fun hx => h.ne (Option.mem_toList.1 hx))
    exact ⟨cell_of_row _ xb 0 _ _ _ hr, frozen_of_row _ _ _ _ _ hr⟩
  have hend := fun w5 w6 v3 (r' : Ws) (ho : Own [] w w5) hS (hX : Own v.ownBlock.toList w5 w6) hg => wend_app (w6 := w6) (v3 := v3) (r' := r') h ho hS hX hg
  generalize wCount r who = cn at cN hc
  have hc2 : ¬ (16 : Int) ≤ cn := by omega
  obtain ⟨a, cap, rfl⟩ := h.own.sl
  have hl1 := Lib.hid (show (r.length + [((who, s), q)].length) * 32 ≤ 140737488355328 by simp only [List.length_singleton]; omega)
  have hl2 := Lib.hid (show r.length + [((who, s), q)].length ≤ maxLen by unfold maxLen; simp only [List.length_singleton]; omega)
  have hl3 := Lib.hid (show (r ++ [((who, s), q)]).length = r.length + 1 by simp)
  replace hA := Lib.hid hA
  replace cF := Lib.hid cF
  replace cD := Lib.hid cD
  replace cN := Lib.hid cN
  replace hC := Lib.hid hC
  replace hK1 := Lib.hid hK1
  replace hSl := Lib.hid hSl
  replace hXc := Lib.hid hXc
  replace hend := Lib.hid hend
  have h1 : ¬ who < 0 := by omega
  have h2 : ¬ 8 ≤ who := by omega
  have h3 : ¬ q < 0 := by omega
  have h4 : ¬ 2 < q := by omega
  clear h hf hrow hs hc
  go_enter Tryz.func17, Tryz.ntmps17
  go_wp2_with (first
    | (go_at_call 38; (with_reducible refine cF.out.mono ?_); rintro e w2 ⟨rfl, hO2⟩; obtain ⟨d0, d1⟩ := hC.out _ hO2; have cD2 := Lib.hid (cD.out _ (hA.out.trans hO2)); replace hO2 := Lib.hid hO2)
    | (go_at_call 39; (with_reducible refine cD2.out.mono ?_); rintro e w3 ⟨rfl, hO3⟩; have cN3 := Lib.hid (cN.out _ (hA.out.trans (hO2.out.trans hO3))); replace hO3 := Lib.hid (hO2.out.trans hO3))
    | (go_at_call 40; (with_reducible refine cN3.out.mono ?_); rintro e w4 ⟨rfl, hO4⟩; replace hO4 := hO3.out.trans hO4; obtain ⟨b0, b1⟩ := hC.out _ hO4.drew; have hd4 := hA.out.trans hO4.drew; have k0 := hK1.out _ hd4; have hy4 := (hO4.alloc (.cells #[.int .i64 who, .string s, .int .i64 q] 69)).drew; have hx4 := hA.out.trans hy4; have k1 := hK1.out _ hx4; obtain ⟨b2, b3⟩ := hC.out _ hy4; have hSx : Sl 69 wEnc 3 (bare ((w4.alloc (.cells #[.int .i64 who, .string s, .int .i64 q] 69)).drew)).heap.size ((w4.alloc (.cells #[.int .i64 who, .string s, .int .i64 q] 69)).drew) (.slice a r.length cap) r := hSl.out _ hx4; have hBx := Lib.hid (own_bare ((w4.alloc (.cells #[.int .i64 who, .string s, .int .i64 q] 69)).drew)); have hRx := (Reads.new (enc := wEnc) (T := 69) w4 ((who, s), q) 1).nil' ((Own.refl [] _).drew); replace hy4 := Lib.hid hy4; replace hd4 := Lib.hid hd4; replace hx4 := Lib.hid hx4; replace hSx := Lib.hid hSx; replace hRx := Lib.hid hRx; replace hO4 := Lib.hid hO4))
  go_region_law ((go_loud (refine step_append_new2 rfl (.tmp 50) (.tmp 54) (by rfl) wElem hBx.out (by rfl) hSx.out (by rfl) hRx.out hl1.out hl2.out ?_); intro va w5 hS5 hqq hg5 hX5; obtain ⟨a5, c5, rfl⟩ := hS5.sl; rw [hl3.out] at hS5 hg5 ⊢; obtain ⟨kC, f5⟩ := hXc.out _ _ hx4.out hX5; replace hS5 := Lib.hid hS5; replace hg5 := Lib.hid hg5; replace hX5 := Lib.hid hX5))
  all_goals
    go_wp2_with fail
    go_ret2
    exact ⟨rfl, hend.out _ _ _ _ hx4.out hS5.out hX5.out hg5.out⟩
theorem row_wish {w : World} {g cap : Nat} {l : Ws} (h : Row 69 wEnc 3 w g cap l) {i : Nat} {k : Int} {s0 : ByteArray} {q0 : Int} (hp : l[i]? = some ((k, s0), q0)) (s : ByteArray) (q : Int) :
    Row 69 wEnc 3 ((w.setCell ⟨g, i * 3 + 1, none⟩ (.string s)).setCell ⟨g, i * 3 + 2, none⟩ (.int .i64 q)) g cap (l.set i ((k, s), q)) := by
  have hi : i < l.length := (List.getElem?_eq_some_iff.1 hp).1
  have s1 := row_upd h wEnc_len (x := ((k, s), q0)) 1 (.string s) hp (fun j hj => by
    match j, hj with
    | 0, _ => simp [wEnc]
    | 1, _ => simp [wEnc]
    | 2, _ => simp [wEnc])
  have s2 := row_upd s1 wEnc_len (x := ((k, s), q)) 2 (.int .i64 q) (List.getElem?_set_self (by simpa using hi)) (fun j hj => by
    match j, hj with
    | 0, _ => simp [wEnc]
    | 1, _ => simp [wEnc]
    | 2, _ => simp [wEnc])
  rw [List.set_set] at s2
  exact s2
theorem wend_set {xb g cap K : Nat} {w w2 : World} {r : Ws} {k : Int} {s : ByteArray} {q0 q : Int} (h : WS w xb (.slice (some ⟨g, 0, none⟩) r.length cap) r) (hR : Row 69 wEnc 3 w g cap r) (hp : r[K]? = some ((k, s), q0)) (ho : Own [] w w2) :
    WEnd w xb (.slice (some ⟨g, 0, none⟩) r.length cap) (r.set K ((k, s), q)) ((w2.setCell ⟨g, K * 3 + 1, none⟩ (.string s)).setCell ⟨g, K * 3 + 2, none⟩ (.int .i64 q)) := by
  have hne : g ≠ xb := fun e => h.ne (by rw [e]; rfl)
  have hR2 := row_wish (hR.own ho (by simp)) hp s q
  have hO2 : Own [g] w2 ((w2.setCell ⟨g, K * 3 + 1, none⟩ (.string s)).setCell ⟨g, K * 3 + 2, none⟩ (.int .i64 q)) := ((Own.refl _ _).setCell (by simp) _).setCell (by simp) _
  refine ⟨.slice (some ⟨g, 0, none⟩) r.length cap, ⟨hO2.heap (h.nil' ho).row (by simpa using Ne.symm hne), ?_, h.ne⟩, (ho.nil.trans hO2).mono (by simp [Value.ownBlock]), fun g' hg' => .inl hg'⟩
  have hl2 : r.length = (r.set K ((k, s), q)).length := by simp
  rw [hl2]
  exact Sl.of_row hR2 wEnc_len (Nat.zero_le _)
set_option maxRecDepth 100000 in
set_option maxHeartbeats 4000000 in
theorem wadd_set (xb : Nat) (v : Value) (r : Ws) (who : Int) (s : ByteArray) (q : Int) (w : World) (h : WS w xb v r) (hl : r.length ≤ 1000) (h0 : 0 ≤ who) (h8 : who < 8) (hf : lvFilter s = true) (hq0 : 0 ≤ q) (hq2 : q ≤ 2) (hs : wPos r who s < r.length) : WAdds xb v r who s q w := by
  unfold WAdds dAdd
  rw [if_neg (by omega), if_neg (by rw [hf]; simp), if_neg (by omega), if_pos hs]
  have hA : Own [] w (w.alloc (.cells #[.string s, .int .i64 q] 32)) := (Own.refl _ _).alloc _
  have hrow : (w.alloc (.cells #[.string s, .int .i64 q] 32)).heap[w.heap.size]? = some (.cells #[.string s, .int .i64 q] 32 (0, 0)) := heap_alloc_new _ _
  have cF := dfilter_any s (w.alloc (.cells #[.string s, .int .i64 q] 32))
  rw [hf] at cF
  have hC : ∀ W, Own [] (w.alloc (.cells #[.string s, .int .i64 q] 32)) W → W.cell? ⟨w.heap.size, 0, none⟩ = some (.string s) ∧ W.cell? ⟨w.heap.size, 1, none⟩ = some (.int .i64 q) := fun W ho => ⟨cell_of_row W _ 0 _ _ _ (ho.heap hrow (by simp)), cell_of_row W _ 1 _ _ _ (ho.heap hrow (by simp))⟩
  have cD := fun W (ho : Own [] w W) => wfind_any xb v r who s W (h.nil' ho) hl
  rw [if_pos hs] at cD
  obtain ⟨q0, hp⟩ := wPos_at hs
  generalize wPos r who s = K at *
  have hK1 : ∀ w', Own [] w w' → w'.cell? ⟨xb, 0, none⟩ = some v := fun w' ho => cell_of_row w' xb 0 _ _ _ (h.nil' ho).row
  obtain ⟨g, cap, rfl, _, hR⟩ : ∃ g cap, v = .slice (some ⟨g, 0, none⟩) r.length cap ∧ 0 ≤ g ∧ Row 69 wEnc 3 w g cap r := by
    rcases h.own.form with ⟨_, rfl⟩ | h1
    · simp at hs
    · exact h1
  have hgl := hR.lt
  have hend := fun w2 (ho : Own [] w w2) => wend_set (q := q) h hR hp ho
  have hKf : ∀ w2, Own [] w w2 → (w2.frozen? ⟨g, K * 3 + 1, none⟩ = false ∧ w2.frozen? ⟨g, K * 3 + 2, none⟩ = false) ∧ w2.cell? ⟨g, K * 3 + 1, none⟩ = some (.string s) ∧ w2.cell? ⟨g, K * 3 + 2, none⟩ = some (.int .i64 q0) ∧ g < w2.heap.size := fun w2 ho =>
    ⟨⟨(hR.own ho (by simp)).frozen _, (hR.own ho (by simp)).frozen _⟩, (hR.own ho (by simp)).cell wEnc_len (c := 1) hp rfl, (hR.own ho (by simp)).cell wEnc_len (c := 2) hp rfl, Nat.lt_of_lt_of_le hgl ho.size⟩
  replace hA := Lib.hid hA
  replace cF := Lib.hid cF
  replace cD := Lib.hid cD
  replace hC := Lib.hid hC
  replace hK1 := Lib.hid hK1
  replace hKf := Lib.hid hKf
  replace hend := Lib.hid hend
  have h1 : ¬ who < 0 := by omega
  have h2 : ¬ 8 ≤ who := by omega
  have h3 : ¬ q < 0 := by omega
  have h4 : ¬ 2 < q := by omega
  have z0 : (0 : Int) ≤ K := by omega
  have z1 : (K : Int) < r.length := by omega
  clear h hf hrow hR hp
  go_enter Tryz.func17, Tryz.ntmps17
  go_wp2_with (first
    | (go_at_call 38; (with_reducible refine cF.out.mono ?_); rintro e w2 ⟨rfl, hO2⟩; obtain ⟨d0, d1⟩ := hC.out _ hO2; have cD2 := Lib.hid (cD.out _ (hA.out.trans hO2)); replace hO2 := Lib.hid hO2)
    | (go_at_call 39; (with_reducible refine cD2.out.mono ?_); rintro e w3 ⟨rfl, hO3⟩; replace hO3 := hO2.out.trans hO3; obtain ⟨b0, b1⟩ := hC.out _ hO3; replace hO3 := hA.out.trans hO3; have k0 := hK1.out _ hO3; obtain ⟨⟨j1, j2⟩, i1, i2, gl3⟩ := hKf.out _ hO3; replace hO3 := Lib.hid hO3))
  go_region
  all_goals
    go_wp2_with fail
    go_ret2
    exact ⟨rfl, hend.out _ hO3.out.drew⟩
theorem wadd_any (xb : Nat) (v : Value) (r : Ws) (who : Int) (s : ByteArray) (q : Int) (w : World) (h : WS w xb v r) (hl : r.length ≤ 1000) : WAdds xb v r who s q w := by
  by_cases hw : who < 0 ∨ 8 ≤ who
  · exact wadd_who xb v r who s q w h hw
  cases hf : lvFilter s with
  | false => exact wadd_filter xb v r who s q w h (by omega) (by omega) hf
  | true =>
    by_cases hq : q < 0 ∨ 2 < q
    · exact wadd_range xb v r who s q w h (by omega) (by omega) hf hq
    by_cases hs : wPos r who s < r.length
    · exact wadd_set xb v r who s q w h hl (by omega) (by omega) hf (by omega) (by omega) hs
    by_cases hc : 16 ≤ wCount r who
    · exact wadd_full xb v r who s q w h hl (by omega) (by omega) hf (by omega) (by omega) hs hc
    · exact wadd_new xb v r who s q w h hl (by omega) (by omega) hf (by omega) (by omega) hs hc
end Go.Proofs.YtldagaliddgdjaaGreatDoor
