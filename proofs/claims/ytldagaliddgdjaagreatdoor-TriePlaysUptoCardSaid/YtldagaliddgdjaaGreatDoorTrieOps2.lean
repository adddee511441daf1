/- Package trie: its calls, by what it holds: Add, Clear. -/
import Derived.Test.YtldagaliddgdjaaGreatDoorTrieOps
namespace Go.Proofs.YtldagaliddgdjaaGreatDoor
open Go.RowKit Go.Lib Go.Shelf Go.Sort

set_option maxRecDepth 100000 in
theorem add_unknown (t root : Nat) (N : Nodes) (cnt : List Int) (k : Int) (s : ByteArray) (q : Int) (w : World) (h : Trie w t root N cnt) (hk : k < 0 ∨ 8 ≤ k) :
    Calls Tryz.prog 16 #[.pointer (some ⟨t, 0, none⟩), .int .i64 k, .agg #[.string s, .int .i64 q]] w fun e w' => e = .returned (.tuple #[.bool false, .int .i64 1]) ∧ Own [] w w' := by
  have hA1 : Own [] w (w.alloc (.cells #[.string s, .int .i64 q] 32)) := (Own.refl _ _).alloc _
  have c0 := (h.nil' hA1).cell0
  have hkn := Lib.hid (fun W => known_bad k W hk)
  replace hA1 := Lib.hid hA1
  clear h hk
  go_enter Tryz.func16, Tryz.ntmps16
  go_wp2_with (first
    | (go_at_call 22; refine (tnone_no t root _ c0).mono ?_; rintro e w' ⟨rfl, rfl⟩)
    | (go_at_call 30; refine (hkn.out _).mono ?_; rintro e w' ⟨rfl, rfl⟩))
  go_ret2
  exact ⟨rfl, hA1.out⟩
set_option maxRecDepth 100000 in
theorem add_badf (t root : Nat) (N : Nodes) (cnt : List Int) (k : Nat) (s : ByteArray) (q : Int) (w : World) (h : Trie w t root N cnt) (hT : Tabs w) (hk : k < 8) (hs : lvFilter s = false) :
    Calls Tryz.prog 16 #[.pointer (some ⟨t, 0, none⟩), .int .i64 k, .agg #[.string s, .int .i64 q]] w fun e w' => e = .returned (.tuple #[.bool false, .int .i64 14]) ∧ Own [] w w' := by
  have hA1 : Own [] w (w.alloc (.cells #[.string s, .int .i64 q] 32)) := (Own.refl _ _).alloc _
  have c0 := (h.nil' hA1).cell0
  have hkn := Lib.hid (fun W => known_any k W hk)
  have cF := filter_any s (w.alloc (.cells #[.string s, .int .i64 q] 32)) (hT.below ((Below.refl _ w).alloc (Nat.le_refl _) _))
  rw [hs] at cF
  replace cF := Lib.hid cF
  replace hA1 := Lib.hid hA1
  clear h hk hT hs
  go_enter Tryz.func16, Tryz.ntmps16
  go_wp2_with (first
    | (go_at_call 22; refine (tnone_no t root _ c0).mono ?_; rintro e w' ⟨rfl, rfl⟩)
    | (go_at_call 30; refine (hkn.out _).mono ?_; rintro e w' ⟨rfl, rfl⟩)
    | (go_at_call 35; refine cF.out.mono ?_; rintro e w2 ⟨rfl, hO2⟩; replace hO2 := Lib.hid hO2))
  go_ret2
  exact ⟨rfl, hA1.out.trans hO2.out⟩
set_option maxRecDepth 100000 in
theorem add_range (t root : Nat) (N : Nodes) (cnt : List Int) (k : Nat) (s : ByteArray) (q : Int) (w : World) (h : Trie w t root N cnt) (hT : Tabs w) (hk : k < 8) (hs : lvFilter s = true) (hq : q < 0 ∨ 2 < q) :
    Calls Tryz.prog 16 #[.pointer (some ⟨t, 0, none⟩), .int .i64 k, .agg #[.string s, .int .i64 q]] w fun e w' => e = .returned (.tuple #[.bool false, .int .i64 5]) ∧ Own [] w w' := by
  have hA1 : Own [] w (w.alloc (.cells #[.string s, .int .i64 q] 32)) := (Own.refl _ _).alloc _
  have c0 := (h.nil' hA1).cell0
  have hrow1 : (w.alloc (.cells #[.string s, .int .i64 q] 32)).heap[w.heap.size]? = some (.cells #[.string s, .int .i64 q] 32 (0, 0)) := heap_alloc_new _ _
  have hkn := Lib.hid (fun W => known_any k W hk)
  have cF := filter_any s (w.alloc (.cells #[.string s, .int .i64 q] 32)) (hT.below ((Below.refl _ w).alloc (Nat.le_refl _) _))
  rw [hs] at cF
  replace cF := Lib.hid cF
  replace hA1 := Lib.hid hA1
  replace hrow1 := Lib.hid hrow1
  clear h hk hT hs
  rcases hq with hq | hq
  · go_enter Tryz.func16, Tryz.ntmps16
    go_wp2_with (first
      | (go_at_call 22; refine (tnone_no t root _ c0).mono ?_; rintro e w' ⟨rfl, rfl⟩)
      | (go_at_call 30; refine (hkn.out _).mono ?_; rintro e w' ⟨rfl, rfl⟩)
      | (go_at_call 35; refine cF.out.mono ?_; rintro e w2 ⟨rfl, hO2⟩; have hr2 := hO2.heap hrow1.out (by simp); have d1 : w2.cell? ⟨w.heap.size, 1, none⟩ = some (.int .i64 q) := cell_of_row _ _ 1 _ _ _ hr2; replace hr2 := Lib.hid hr2; replace hO2 := Lib.hid hO2))
    go_ret2
    exact ⟨rfl, hA1.out.trans hO2.out⟩
  · have hq0 : ¬ q < 0 := by omega
    go_enter Tryz.func16, Tryz.ntmps16
    go_wp2_with (first
      | (go_at_call 22; refine (tnone_no t root _ c0).mono ?_; rintro e w' ⟨rfl, rfl⟩)
      | (go_at_call 30; refine (hkn.out _).mono ?_; rintro e w' ⟨rfl, rfl⟩)
      | (go_at_call 35; refine cF.out.mono ?_; rintro e w2 ⟨rfl, hO2⟩; have hr2 := hO2.heap hrow1.out (by simp); have d1 : w2.cell? ⟨w.heap.size, 1, none⟩ = some (.int .i64 q) := cell_of_row _ _ 1 _ _ _ hr2; replace hr2 := Lib.hid hr2; replace hO2 := Lib.hid hO2))
    go_ret2
    exact ⟨rfl, hA1.out.trans hO2.out⟩
set_option maxRecDepth 100000 in
theorem add_full (t root : Nat) (N : Nodes) (cnt : List Int) (k : Nat) (s : ByteArray) (q : Int) (w : World) (h : Trie w t root N cnt) (hT : Tabs w) (hk : k < 8) (hs : lvFilter s = true) (hq0 : 0 ≤ q) (hq2 : q ≤ 2) (hh : hasN N root (levels s) k = false) {v : Int} (hv : cnt[k]? = some v) (hv16 : 16 ≤ v) :
    Calls Tryz.prog 16 #[.pointer (some ⟨t, 0, none⟩), .int .i64 k, .agg #[.string s, .int .i64 q]] w fun e w' => e = .returned (.tuple #[.bool false, .int .i64 6]) ∧ Own [] w w' := by
  have hss : s.size ≤ 1048576 := by have := (lvSized_pos (lvFilter_sized hs)).2; omega
  have hA1 : Own [] w (w.alloc (.cells #[.string s, .int .i64 q] 32)) := (Own.refl _ _).alloc _
  have c0 := (h.nil' hA1).cell0
  have hrow1 : (w.alloc (.cells #[.string s, .int .i64 q] 32)).heap[w.heap.size]? = some (.cells #[.string s, .int .i64 q] 32 (0, 0)) := heap_alloc_new _ _
  have hkn := Lib.hid (fun W => known_any k W hk)
  have cF := filter_any s (w.alloc (.cells #[.string s, .int .i64 q] 32)) (hT.below ((Below.refl _ w).alloc (Nat.le_refl _) _))
  rw [hs] at cF
  have cH := fun W (ho : Own [] w W) => has_any t root N cnt k s W (h.nil' ho) hss
  rw [hh] at cH
  have hk1 := fun W (ho : Own [] w W) => (by rw [Nat.add_comm 1 k]; exact (h.nil' ho).cellN hv : W.cell? ⟨t, 1 + k, none⟩ = some (.int .i64 v))
  have hq0' : ¬ q < 0 := by omega
  have hq2' : ¬ 2 < q := by omega
  have hk8 : (k : Int) < 8 := by omega
  have hk0 : (0 : Int) ≤ k := by omega
  replace cF := Lib.hid cF
  replace cH := Lib.hid cH
  replace hk1 := Lib.hid hk1
  replace hA1 := Lib.hid hA1
  replace hrow1 := Lib.hid hrow1
  clear h hk hT hs hh hv
  go_enter Tryz.func16, Tryz.ntmps16
  go_wp2_with (first
    | (go_at_call 22; refine (tnone_no t root _ c0).mono ?_; rintro e w' ⟨rfl, rfl⟩)
    | (go_at_call 30; refine (hkn.out _).mono ?_; rintro e w' ⟨rfl, rfl⟩)
    | (go_at_call 35; refine cF.out.mono ?_; rintro e w2 ⟨rfl, hO2⟩; have hr2 := hO2.heap hrow1.out (by simp); have d0 : w2.cell? ⟨w.heap.size, 0, none⟩ = some (.string s) := cell_of_row _ _ 0 _ _ _ hr2; have d1 : w2.cell? ⟨w.heap.size, 1, none⟩ = some (.int .i64 q) := cell_of_row _ _ 1 _ _ _ hr2; replace hr2 := Lib.hid hr2; replace hO2 := Lib.hid (hA1.out.trans hO2))
    | (go_at_call 36; refine (cH.out _ hO2.out).mono ?_; rintro e w3 ⟨rfl, hO3⟩; replace hO3 := hO2.out.trans hO3; have k1 := hk1.out _ hO3; replace hO3 := Lib.hid hO3))
  go_ret2
  exact ⟨rfl, hO3.out⟩
theorem tadd_any (t : Nat) (F : List Nat) (A : Wishes) (who : Int) (s : ByteArray) (q : Int) (w : World) (h : TrieF w t F A) (hT : Tabs w) :
    Calls Tryz.prog 16 #[.pointer (some ⟨t, 0, none⟩), .int .i64 who, .agg #[.string s, .int .i64 q]] w fun e w' => e = .returned (.tuple #[.bool (tAdd A who s q).1.1, .int .i64 (tAdd A who s q).1.2]) ∧ Left w t F (tAdd A who s q).2 w' := by
  have h0 := h
  obtain ⟨root, N, cnt, rfl, h⟩ := h
  unfold tAdd
  by_cases hk : who < 0 ∨ 8 ≤ who
  · rw [if_pos hk]
    refine (add_unknown t root N cnt who s q w h.trie hk).mono ?_
    rintro e w' ⟨rfl, ho⟩
    exact ⟨rfl, Left.same h0 ho⟩
  · rw [if_neg hk]
    obtain ⟨k, rfl, hk8⟩ := int_nat hk
    rw [Int.toNat_natCast]
    cases hs : lvFilter s with
    | false =>
      rw [if_pos rfl]
      refine (add_badf t root N cnt k s q w h.trie hT hk8 hs).mono ?_
      rintro e w' ⟨rfl, ho⟩
      exact ⟨rfl, Left.same h0 ho⟩
    | true =>
      rw [if_neg (by simp)]
      by_cases hq : q < 0 ∨ 2 < q
      · rw [if_pos hq]
        refine (add_range t root N cnt k s q w h.trie hT hk8 hs hq).mono ?_
        rintro e w' ⟨rfl, ho⟩
        exact ⟨rfl, Left.same h0 ho⟩
      · rw [if_neg hq]
        have hcv := h.cnt k hk8
        by_cases hf : (aGet (A k) s).isSome = false ∧ 16 ≤ (A k).length
        · rw [if_pos hf]
          refine (add_full t root N cnt k s q w h.trie hT hk8 hs (by omega) (by omega) (by rw [h.has]; exact hf.1) hcv (by have := hf.2; omega)).mono ?_
          rintro e w' ⟨rfl, ho⟩
          exact ⟨rfl, Left.same h0 ho⟩
        · rw [if_neg hf]
          have hr : (aGet (A k) s).isSome = true ∨ (A k).length < 16 := by
            cases hb : (aGet (A k) s).isSome
            · exact .inr (by
                rcases Nat.lt_or_ge (A k).length 16 with h1 | h1
                · exact h1
                · exact absurd ⟨hb, h1⟩ hf)
            · exact .inl rfl
          refine (add_ok t root N cnt k s q w h.trie hT hk8 hs (by omega) (by omega) (by rw [h.has, h.cntD hk8]; rcases hr with h1 | h1; exact .inl h1; exact .inr (by omega)) h.cnts).mono ?_
          rintro e w' ⟨N', c', rfl, hG, hc', hT', hft, hO⟩
          rw [h.has]
          have hA' := h.added hk8 hs (q := q) (by omega) hr hG hT'
          refine ⟨rfl, t :: feet (nWho N' c' k q), ⟨root, _, _, rfl, hA'⟩, fun x hx => ?_, hO⟩
          rcases List.mem_cons.1 hx with rfl | hx
          · exact .inl (List.mem_cons_self ..)
          · rw [feet_who] at hx
            rcases hft x hx with h1 | h1
            · exact .inl (List.mem_cons_of_mem _ h1)
            · exact .inr h1
end Go.Proofs.YtldagaliddgdjaaGreatDoor
