/- Package trie: Add, where it is taken. -/
import Derived.Test.YtldagaliddgdjaaGreatDoorTrieAdd
namespace Go.Proofs.YtldagaliddgdjaaGreatDoor
open Go.RowKit Go.Lib Go.Shelf

def cntPut (cnt : List Int) (k : Nat) (had : Bool) : List Int := if had then cnt else cnt.set k (cnt.getD k 0 + 1)
def AddPost (t root : Nat) (N : Nodes) (cnt : List Int) (k : Nat) (s : ByteArray) (q : Int) (w : World) (e : Ending) (w' : World) : Prop :=
  ∃ N' c', e = .returned (.tuple #[.bool (hasN N root (levels s) k), .int .i64 0]) ∧ Grown N root (levels s) N' c' ∧ Has N' c' ∧ Trie w' t root (nWho N' c' k q) (cntPut cnt k (hasN N root (levels s) k)) ∧ (∀ x ∈ feet N', x ∈ feet N ∨ w.heap.size ≤ x) ∧ Own (t :: feet N) w w'
theorem cInts_set (cnt : List Int) (k : Nat) (v : Int) (r : Value) : ((r :: cInts cnt).toArray).setIfInBounds (k + 1) (.int .i64 v) = (r :: cInts (cnt.set k v)).toArray := by
  simp [cInts, List.map_set]
theorem add_mid {t root : Nat} {N N' : Nodes} {n : Node} {cnt : List Int} {k q : Int} {W w5 w6 : World} (h : Trie W t root N cnt) (hF6 : Forest w6 (nWho N' n.blk k q)) (hC5 : Closed' N') (hn : n ∈ N') (hH5 : ∀ d, Has N d → Has N' d)
    (hft5 : ∀ x ∈ feet N', x ∈ feet N ∨ W.heap.size ≤ x) (hO5 : Own (feet N) W w5) (hO6 : Own [n.who] w5 w6) : Trie w6 t root (nWho N' n.blk k q) cnt ∧ Own (feet N) W w6 := by
  have hO : Own (feet N) W w6 := hO5.trans' hO6 (fun x hx => by
    simp at hx; subst hx
    exact hft5 _ (foot_feet hn (by simp [Node.foot])))
  refine ⟨⟨hO.heap h.row h.out, h.len, hF6, has_who (hH5 _ h.has), closed_who hC5, ?_⟩, hO⟩
  rw [feet_who]
  intro hx
  rcases hft5 _ hx with h1 | h1
  · exact h.out h1
  · have := h.lt; omega
theorem Trie.bump {w : World} {t root : Nat} {N : Nodes} {cnt : List Int} (h : Trie w t root N cnt) (k : Nat) (u : Int) : Trie (w.setCell ⟨t, 1 + k, none⟩ (.int .i64 u)) t root N (cnt.set k u) ∧ Own [t] w (w.setCell ⟨t, 1 + k, none⟩ (.int .i64 u)) := by
  have hO : Own [t] w (w.setCell ⟨t, 1 + k, none⟩ (.int .i64 u)) := (Own.refl _ _).setCell (by simp) _
  refine ⟨⟨?_, by simpa using h.len, h.forest.own hO (fun x hx e => by simp at e; subst e; exact h.out hx), h.has, h.closed, h.out⟩, hO⟩
  rw [Nat.add_comm 1 k]
  refine (heap_setCell_same _ _ _ _ _ _ h.row).trans ?_
  rw [cInts_set]
theorem add_end {t root : Nat} {N N' : Nodes} {n : Node} {s : ByteArray} {q : Int} {k : Nat} {w W w5 w6 : World} {cnt' : List Int} {w' : World} (hO : Own [] w W)
    (hG2 : Grown N root (levels s) N' n.blk ∧ Forest w6 (nWho N' n.blk k q) ∧ Closed' N' ∧ n ∈ N' ∧ (∀ d, Has N d → Has N' d) ∧ (∀ x ∈ feet N', x ∈ feet N ∨ W.heap.size ≤ x) ∧ Own (feet N) W w5 ∧ Own [n.who] w5 w6)
    (hM : Own (feet N) W w6) (hw : Trie w' t root (nWho N' n.blk k q) cnt') (hO2 : Own (t :: feet N) w6 w') :
    Grown N root (levels s) N' n.blk ∧ Has N' n.blk ∧ Trie w' t root (nWho N' n.blk k q) cnt' ∧ (∀ x ∈ feet N', x ∈ feet N ∨ w.heap.size ≤ x) ∧ Own (t :: feet N) w w' :=
  ⟨hG2.1, ⟨n, hG2.2.2.2.1, rfl⟩, hw, fun x hx => (hG2.2.2.2.2.2.1 x hx).imp id (fun h => Nat.le_trans hO.size h), (hO.nil.trans (hM.mono fun _ h => List.mem_cons_of_mem _ h)).trans hO2⟩
set_option maxRecDepth 100000 in
set_option maxHeartbeats 4000000 in
theorem add_ok (t root : Nat) (N : Nodes) (cnt : List Int) (k : Nat) (s : ByteArray) (q : Int) (w : World) (h : Trie w t root N cnt) (hT : Tabs w) (hk : k < 8) (hs : lvFilter s = true) (hq0 : 0 ≤ q) (hq2 : q ≤ 2) (hc : hasN N root (levels s) k = true ∨ cnt.getD k 0 < 16) (hc2 : ∀ v ∈ cnt, 0 ≤ v ∧ v ≤ 1000) :
    Calls Tryz.prog 16 #[.pointer (some ⟨t, 0, none⟩), .int .i64 k, .agg #[.string s, .int .i64 q]] w (AddPost t root N cnt k s q w) := by
  have hss : s.size ≤ 1048576 := by
    unfold lvFilter at hs
    rw [Bool.and_eq_true] at hs
    have := (lvSized_pos hs.1).2
    omega
  have hA1 : Own [] w (w.alloc (.cells #[.string s, .int .i64 q] 32)) := (Own.refl _ _).alloc _
  have c0 := (h.nil' hA1).cell0
  have hbl := h.lt
  have hrow1 : (w.alloc (.cells #[.string s, .int .i64 q] 32)).heap[w.heap.size]? = some (.cells #[.string s, .int .i64 q] 32 (0, 0)) := heap_alloc_new _ _
  have cF := filter_any s (w.alloc (.cells #[.string s, .int .i64 q] 32)) (hT.below ((Below.refl _ w).alloc (Nat.le_refl _) _))
  rw [hs] at cF
  replace cF := Lib.hid cF
  have hkn := fun W => known_any k W hk
  replace hkn := Lib.hid hkn
  obtain ⟨v, hv⟩ : ∃ v, cnt[k]? = some v := ⟨_, List.getElem?_eq_getElem (by rw [h.len]; exact hk)⟩
  have hvd : cnt.getD k 0 = v := by rw [List.getD_eq_getElem?_getD, hv]; rfl
  have hv2 := hc2 v (List.mem_of_getElem? hv)
  rw [hvd] at hc
  have cH := fun W (ho : Own [] w W) => has_any t root N cnt k s W (h.nil' ho) hss
  have cG := fun W (ho : Own [] w W) => grow_any t root N cnt s W (h.nil' ho) hss
  unfold AddPost
  unfold cntPut
  rw [hvd]
  generalize hasN N root (levels s) k = had at cH hc ⊢
  replace cH := Lib.hid cH
  replace cG := Lib.hid cG
  replace h := Lib.hid h
  replace hT := Lib.hid hT
  replace hrow1 := Lib.hid hrow1
  replace hA1 := Lib.hid hA1
  replace hs := Lib.hid hs
  replace hv := Lib.hid hv
  replace hvd := Lib.hid hvd
  clear hc2
  cases had
  · have hv16 : ¬ (16 : Int) ≤ v := by simp at hc; omega
    have hw1 : IntKind.i64.wrap (v + 1) = v + 1 := IntWalk.i64_in _ (by omega)
    simp only [Bool.false_eq_true, if_false]
    clear hc
    go_enter Tryz.func16, Tryz.ntmps16
    go_wp2_with (first
      | (go_at_call 22; refine (tnone_no t root _ c0).mono ?_; rintro e w' ⟨rfl, rfl⟩)
      | (go_at_call 30; refine (hkn.out _).mono ?_; rintro e w' ⟨rfl, rfl⟩)
      | (go_at_call 35; refine cF.out.mono ?_; rintro e w2 ⟨rfl, hO2⟩; have hr2 := hO2.heap hrow1.out (by simp); have d0 : w2.cell? ⟨w.heap.size, 0, none⟩ = some (.string s) := cell_of_row _ _ 0 _ _ _ hr2; have d1 : w2.cell? ⟨w.heap.size, 1, none⟩ = some (.int .i64 q) := cell_of_row _ _ 1 _ _ _ hr2; replace hO2 := Lib.hid (hA1.out.trans hO2); replace hr2 := Lib.hid hr2)
      | (go_at_call 36; refine (cH.out _ hO2.out).mono ?_; rintro e w3 ⟨rfl, hO3⟩; have hr3 := hO3.heap hr2.out (by simp); have e0 : w3.cell? ⟨w.heap.size, 0, none⟩ = some (.string s) := cell_of_row _ _ 0 _ _ _ hr3; have e1 : w3.cell? ⟨w.heap.size, 1, none⟩ = some (.int .i64 q) := cell_of_row _ _ 1 _ _ _ hr3; replace hO3 := hO2.out.trans hO3; have k1 : w3.cell? ⟨t, 1 + k, none⟩ = some (.int .i64 v) := by rw [Nat.add_comm 1 k]; exact (h.out.nil' hO3).cellN hv.out))
    have hTr := h.out.nil' hO3.drew
    have hG := Lib.hid (cG.out _ hO3.drew)
    have hO3d := Lib.hid hO3.drew
    replace hO3 := Lib.hid hO3
    replace hr3 := Lib.hid hr3
    have hfN := Lib.hid h.out.forest.lt
    go_region_with ((go_at_call 37; refine hG.out.mono ?_; rintro e w5 ⟨N', c', rfl, hGr, hF5, hC5, hc5, hH5, hft5, hO5⟩; obtain ⟨n, hf, hn, rfl⟩ := hc5.find hF5.apart; have m1 := (hF5.at_ n hn).cells.2; have hr5 := hO5.heap (w' := w5) hr3.out (fun hx => absurd (hfN.out _ hx) (Nat.lt_irrefl _)); have f1 : w5.cell? ⟨w.heap.size, 1, none⟩ = some (.int .i64 q) := cell_of_row _ _ 1 _ _ _ hr5; obtain ⟨w6, hup, hF6, hO6⟩ := hF5.putWho hn k q; have hG2 := Lib.hid (And.intro hGr (And.intro hF6 (And.intro hC5 (And.intro hn (And.intro hH5 (And.intro hft5 (And.intro hO5 hO6))))))); clear hGr hF6 hC5 hn hH5 hft5 hO5 hO6 hF5 hf hc5 hr5))
    all_goals
      have hM := add_mid hTr hG2.out.2.1 hG2.out.2.2.1 hG2.out.2.2.2.1 hG2.out.2.2.2.2.1 hG2.out.2.2.2.2.2.1 hG2.out.2.2.2.2.2.2.1 hG2.out.2.2.2.2.2.2.2
      have k6 : w6.cell? ⟨t, 1 + k, none⟩ = some (.int .i64 v) := by rw [Nat.add_comm 1 k]; exact hM.1.cellN hv.out
      have f6 : w6.frozen? ⟨t, 1 + k, none⟩ = false := frozen_of_row _ _ _ _ _ hM.1.row
      have hB := hM.1.bump k (v + 1)
      have hEnd := add_end (w' := ((w6.setCell ⟨t, 1 + k, none⟩ (.int .i64 (v + 1))).drew)) hO3d.out hG2.out hM.2 (hB.1.nil' (Own.refl [] _).drew) ((hB.2.mono (by simp)).drew)
      replace hEnd := Lib.hid hEnd
      clear hB hM hG2
      replace hTr := Lib.hid hTr
      have hk8 : (k : Int) < 8 := by omega
      have hk0 : (0 : Int) ≤ k := by omega
      go_wp2_with fail
      go_region
      all_goals
        go_wp2_with fail
        go_ret2
        exact ⟨N', n.blk, rfl, hEnd.out⟩
  · simp only [if_true]
    clear hc
    go_enter Tryz.func16, Tryz.ntmps16
    go_wp2_with (first
      | (go_at_call 22; refine (tnone_no t root _ c0).mono ?_; rintro e w' ⟨rfl, rfl⟩)
      | (go_at_call 30; refine (hkn.out _).mono ?_; rintro e w' ⟨rfl, rfl⟩)
      | (go_at_call 35; refine cF.out.mono ?_; rintro e w2 ⟨rfl, hO2⟩; have hr2 := hO2.heap hrow1.out (by simp); have d0 : w2.cell? ⟨w.heap.size, 0, none⟩ = some (.string s) := cell_of_row _ _ 0 _ _ _ hr2; have d1 : w2.cell? ⟨w.heap.size, 1, none⟩ = some (.int .i64 q) := cell_of_row _ _ 1 _ _ _ hr2; replace hO2 := Lib.hid (hA1.out.trans hO2); replace hr2 := Lib.hid hr2)
      | (go_at_call 36; refine (cH.out _ hO2.out).mono ?_; rintro e w3 ⟨rfl, hO3⟩; have hr3 := hO3.heap hr2.out (by simp); have e0 : w3.cell? ⟨w.heap.size, 0, none⟩ = some (.string s) := cell_of_row _ _ 0 _ _ _ hr3; have e1 : w3.cell? ⟨w.heap.size, 1, none⟩ = some (.int .i64 q) := cell_of_row _ _ 1 _ _ _ hr3; replace hO3 := hO2.out.trans hO3))
    have hTr := h.out.nil' hO3.drew
    have hG := Lib.hid (cG.out _ hO3.drew)
    have hO3d := Lib.hid hO3.drew
    replace hO3 := Lib.hid hO3
    replace hr3 := Lib.hid hr3
    have hfN := Lib.hid h.out.forest.lt
    go_region_with ((go_at_call 37; refine hG.out.mono ?_; rintro e w5 ⟨N', c', rfl, hGr, hF5, hC5, hc5, hH5, hft5, hO5⟩; obtain ⟨n, hf, hn, rfl⟩ := hc5.find hF5.apart; have m1 := (hF5.at_ n hn).cells.2; have hr5 := hO5.heap (w' := w5) hr3.out (fun hx => absurd (hfN.out _ hx) (Nat.lt_irrefl _)); have f1 : w5.cell? ⟨w.heap.size, 1, none⟩ = some (.int .i64 q) := cell_of_row _ _ 1 _ _ _ hr5; obtain ⟨w6, hup, hF6, hO6⟩ := hF5.putWho hn k q; have hG2 := Lib.hid (And.intro hGr (And.intro hF6 (And.intro hC5 (And.intro hn (And.intro hH5 (And.intro hft5 (And.intro hO5 hO6))))))); clear hGr hF6 hC5 hn hH5 hft5 hO5 hO6 hF5 hf hc5 hr5))
    all_goals
      have hM := add_mid hTr hG2.out.2.1 hG2.out.2.2.1 hG2.out.2.2.2.1 hG2.out.2.2.2.2.1 hG2.out.2.2.2.2.2.1 hG2.out.2.2.2.2.2.2.1 hG2.out.2.2.2.2.2.2.2
      have hEnd := add_end (w' := w6) hO3d.out hG2.out hM.2 hM.1 (Own.refl _ _)
      replace hEnd := Lib.hid hEnd
      clear hM hG2
      replace hTr := Lib.hid hTr
      go_wp2_with fail
      go_ret2
      exact ⟨N', n.blk, rfl, hEnd.out⟩
end Go.Proofs.YtldagaliddgdjaaGreatDoor
