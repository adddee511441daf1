/- Package edge: Take, of the kinds that are taken so far; Pending, Online; View of a node without devices. -/
import Derived.Test.YtjfmbjgniajagaaGreatDoorEdgeBirth
import Derived.Test.YtjfmbjgniajagaaGreatDoorEdgeData2
import Derived.Deep.RegionHeld3
namespace Go.Proofs.YtjfmbjgniajagaaGreatDoor
open Go.RowKit

theorem EdgeAt.pend {w : World} {n : Nat} {g nm : ByteArray} {L : EW} {s : EN} (h : EdgeAt w n g nm L s) :
    EdgeAt (w.setCell ⟨n, 5, none⟩ (.bool true)) n g nm L { s with pending := true } ∧ Own [n] w (w.setCell ⟨n, 5, none⟩ (.bool true)) := by
  have hO2 : Own [n] w (w.setCell ⟨n, 5, none⟩ (.bool true)) := (Own.refl _ _).setCell (by simp) _
  have hA := h.apart
  unfold EW.feet at hA
  simp only [List.nodup_cons, List.mem_cons, List.mem_append, not_or] at hA
  obtain ⟨⟨a1, a2, a3, a4, a5, a6⟩, _⟩ := hA
  refine ⟨⟨heap_setCell_same _ _ _ _ _ _ h.row, h.rrow.own hO2 (by simpa using Ne.symm a1), h.tab.own hO2 (by simpa using Ne.symm a2) (by simpa using Ne.symm a3), h.its.own' hO2 (fun b hb => ?_), h.dvs.own hO2 (fun b hb => ?_), h.len, fun i d x hd hx => ?_, h.apart, h.few⟩, hO2⟩
  · have := blkOf_mem hb
    simp; rintro rfl
    exact a4 this
  · simp; rintro rfl
    exact a5 (by simp [hb])
  · obtain ⟨k1, k2, k3⟩ := h.devs i d x hd hx
    have hm : d ∈ L.ds := List.mem_of_getElem? hd
    have hn2 : ∀ b, b ∈ d.blk :: blkOf d.a → b ≠ n := fun b hb e => by
      subst e
      exact a6 (List.mem_flatMap.2 ⟨d, hm, hb⟩)
    exact ⟨hO2.heap k1 (by simpa using hn2 _ (List.mem_cons_self ..)), k2.own' hO2 (fun b hb => by simpa using hn2 b (List.mem_cons_of_mem _ (blkOf_mem hb))), k3⟩
theorem epost_pend {n : Nat} {g nm : ByteArray} {L L' : EW} {s : EN} {w w0 w2 : World} (h0 : Own [] w w0) (hE : EdgeAt w2 n g nm L' s) (hO : Own (L.feet n) w0 w2) (hs : ∀ x ∈ L'.feet n, x ∈ L.feet n ∨ w0.heap.size ≤ x) :
    ∃ L', EdgeAt (w2.setCell ⟨n, 5, none⟩ (.bool true)) n g nm L' { s with pending := true } ∧ Own (L.feet n) w (w2.setCell ⟨n, 5, none⟩ (.bool true)) ∧ (∀ x ∈ L'.feet n, x ∈ L.feet n ∨ w.heap.size ≤ x) := by
  obtain ⟨h1, h2⟩ := hE.pend
  refine ⟨L', h1, (h0.nil.trans hO).trans (h2.mono (fun x hx => by simp at hx; subst hx; unfold EW.feet; simp)), fun x hx => ?_⟩
  rcases hs x hx with h3 | h3
  · exact .inl h3
  · exact .inr (Nat.le_trans h0.size h3)
theorem epost_same {n : Nat} {g nm : ByteArray} {L L' : EW} {s : EN} {w w0 w2 : World} (h0 : Own [] w w0) (hE : EdgeAt w2 n g nm L' s) (hO : Own (L.feet n) w0 w2) (hs : ∀ x ∈ L'.feet n, x ∈ L.feet n ∨ w0.heap.size ≤ x) :
    ∃ L', EdgeAt w2 n g nm L' s ∧ Own (L.feet n) w w2 ∧ (∀ x ∈ L'.feet n, x ∈ L.feet n ∨ w.heap.size ≤ x) := by
  refine ⟨L', hE, h0.nil.trans hO, fun x hx => ?_⟩
  rcases hs x hx with h3 | h3
  · exact .inl h3
  · exact .inr (Nat.le_trans h0.size h3)
set_option maxRecDepth 100000 in
set_option maxHeartbeats 4000000 in
theorem take1_any (n : Nat) (g nm : ByteArray) (L : EW) (s : EN) (dn : ByteArray) (p : Pay) (w : World) (h : EdgeAt w n g nm L s) (hM : MetsAt w p.a p.M) (h0 : 0 ≤ p.s) (hE : Errs w) :
    Calls Tryz.prog 10 #[.pointer (some ⟨n, 0, none⟩), .int .i64 1, .string dn, p.val] w (EPost n g nm L (ePend (eBirth s p)) w) := by
  have hW0 := pbox_own w p
  obtain ⟨q0, q1, q2, q3, q4, q5⟩ := pbox_cells w p (S := []) (by simp) _ (Own.refl _ _)
  have cB := birth_any n g nm L s dn p (pbox w p) (h.nil' hW0) (hM.nil' hW0) h0 (hE.nil hW0)
  have hC := fun W L' s' (hk : EdgeAt W n g nm L' s') => edge_cells hk (S := []) (by simp) W (Own.refl _ _)
  obtain ⟨⟨k2, k3, k4, k5, k6, k7, k8⟩, _⟩ := edge_cells h (S := []) (by simp) _ hW0
  have hp := fun L' s' w2 (hE : EdgeAt w2 n g nm L' s') hO hs => epost_pend (w := w) (L := L) hW0 hE hO hs
  have hq := fun L' s' w2 (hE : EdgeAt w2 n g nm L' s') hO hs => epost_same (w := w) (L := L) hW0 hE hO hs
  have cN := enone_any n ⟨L.rb, 0, none⟩ (pbox w p) k4
  unfold EPost at cB ⊢
  have hv : p.val = .agg #[.int .u64 p.t, .bool p.h, .int .u64 p.s, .string p.u, .string p.b, .slice p.a p.M.length p.c] := rfl
  rw [hv] at cB ⊢
  simp only [pbox] at cB cN hW0 q0 q1 q2 q3 q4 q5 k4
  unfold ePend
  generalize eBirth s p = r at *
  obtain ⟨r1, r2⟩ := r
  simp only at cB ⊢
  replace hW0 := Lib.hid hW0
  replace cB := Lib.hid cB
  replace cN := Lib.hid cN
  replace hC := Lib.hid hC
  replace hp := Lib.hid hp
  replace hq := Lib.hid hq
  clear hv h hM h0 hE k2 k3 k5 k6 k7 k8
  by_cases h3 : 3 ≤ r1
  · rw [if_pos h3]
    go_enter Tryz.func10, Tryz.ntmps10
    go_wp2_with (first
      | (go_at_call 24; (with_reducible refine cN.out.mono ?_); rintro e w1 ⟨rfl, rfl⟩)
      | (go_at_call 25; go_in)
      | (go_at_call 33; (with_reducible refine cB.out.mono ?_); rintro e w2 ⟨rfl, L', hE', hO', hs'⟩; obtain ⟨⟨_, _, _, y5, _, _, _⟩, _, _, f5, _, _, _⟩ := hC.out _ _ _ hE'; replace hE' := Lib.hid hE'; replace hO' := Lib.hid hO'; replace hs' := Lib.hid hs'))
    go_ret
    exact ⟨rfl, hp.out _ _ _ hE'.out hO'.out hs'.out⟩
  · rw [if_neg h3]
    go_enter Tryz.func10, Tryz.ntmps10
    go_wp2_with (first
      | (go_at_call 24; (with_reducible refine cN.out.mono ?_); rintro e w1 ⟨rfl, rfl⟩)
      | (go_at_call 25; go_in)
      | (go_at_call 33; (with_reducible refine cB.out.mono ?_); rintro e w2 ⟨rfl, L', hE', hO', hs'⟩; replace hE' := Lib.hid hE'; replace hO' := Lib.hid hO'; replace hs' := Lib.hid hs'))
    go_ret
    exact ⟨rfl, hq.out _ _ _ hE'.out hO'.out hs'.out⟩
set_option maxRecDepth 100000 in
set_option maxHeartbeats 4000000 in
theorem take3_any (n : Nat) (g nm : ByteArray) (L : EW) (s : EN) (dn : ByteArray) (p : Pay) (w : World) (h : EdgeAt w n g nm L s) (hM : MetsAt w p.a p.M) (h0 : 0 ≤ p.s) (hE : Errs w) :
    Calls Tryz.prog 10 #[.pointer (some ⟨n, 0, none⟩), .int .i64 3, .string dn, p.val] w (EPost n g nm L (ePend (eData s p)) w) := by
  have hW0 := pbox_own w p
  obtain ⟨q0, q1, q2, q3, q4, q5⟩ := pbox_cells w p (S := []) (by simp) _ (Own.refl _ _)
  have cB := data_any n g nm L s dn p (pbox w p) (h.nil' hW0) (hM.nil' hW0) h0 (hE.nil hW0)
  have hC := fun W L' s' (hk : EdgeAt W n g nm L' s') => edge_cells hk (S := []) (by simp) W (Own.refl _ _)
  obtain ⟨⟨k2, k3, k4, k5, k6, k7, k8⟩, _⟩ := edge_cells h (S := []) (by simp) _ hW0
  have hp := fun L' s' w2 (hE : EdgeAt w2 n g nm L' s') hO hs => epost_pend (w := w) (L := L) hW0 hE hO hs
  have hq := fun L' s' w2 (hE : EdgeAt w2 n g nm L' s') hO hs => epost_same (w := w) (L := L) hW0 hE hO hs
  have cN := enone_any n ⟨L.rb, 0, none⟩ (pbox w p) k4
  unfold EPost at cB ⊢
  have hv : p.val = .agg #[.int .u64 p.t, .bool p.h, .int .u64 p.s, .string p.u, .string p.b, .slice p.a p.M.length p.c] := rfl
  rw [hv] at cB ⊢
  simp only [pbox] at cB cN hW0 q0 q1 q2 q3 q4 q5 k4
  unfold ePend
  generalize eData s p = r at *
  obtain ⟨r1, r2⟩ := r
  simp only at cB ⊢
  replace hW0 := Lib.hid hW0
  replace cB := Lib.hid cB
  replace cN := Lib.hid cN
  replace hC := Lib.hid hC
  replace hp := Lib.hid hp
  replace hq := Lib.hid hq
  clear hv h hM h0 hE k2 k3 k5 k6 k7 k8
  by_cases h3 : 3 ≤ r1
  · rw [if_pos h3]
    go_enter Tryz.func10, Tryz.ntmps10
    go_wp2_with (first
      | (go_at_call 24; (with_reducible refine cN.out.mono ?_); rintro e w1 ⟨rfl, rfl⟩)
      | (go_at_call 25; go_in)
      | (go_at_call 35; (with_reducible refine cB.out.mono ?_); rintro e w2 ⟨rfl, L', hE', hO', hs'⟩; obtain ⟨⟨_, _, _, y5, _, _, _⟩, _, _, f5, _, _, _⟩ := hC.out _ _ _ hE'; replace hE' := Lib.hid hE'; replace hO' := Lib.hid hO'; replace hs' := Lib.hid hs'))
    go_ret
    exact ⟨rfl, hp.out _ _ _ hE'.out hO'.out hs'.out⟩
  · rw [if_neg h3]
    go_enter Tryz.func10, Tryz.ntmps10
    go_wp2_with (first
      | (go_at_call 24; (with_reducible refine cN.out.mono ?_); rintro e w1 ⟨rfl, rfl⟩)
      | (go_at_call 25; go_in)
      | (go_at_call 35; (with_reducible refine cB.out.mono ?_); rintro e w2 ⟨rfl, L', hE', hO', hs'⟩; replace hE' := Lib.hid hE'; replace hO' := Lib.hid hO'; replace hs' := Lib.hid hs'))
    go_ret
    exact ⟨rfl, hq.out _ _ _ hE'.out hO'.out hs'.out⟩
theorem epending_any (n : Nat) (g nm : ByteArray) (L : EW) (s : EN) (w : World) (h : EdgeAt w n g nm L s) : Calls Tryz.prog 11 #[.pointer (some ⟨n, 0, none⟩)] w fun e w' => e = .returned (.bool s.pending) ∧ w = w' := by
  obtain ⟨⟨k2, k3, k4, k5, k6, k7, k8⟩, _⟩ := edge_cells h (S := []) (by simp) _ (Own.refl _ _)
  have cN := Lib.hid (enone_any n ⟨L.rb, 0, none⟩ w k4)
  clear h k2 k3 k6 k7 k8
  go_enter Tryz.func11, Tryz.ntmps11
  go_wp2_with (go_at_call 24; (with_reducible refine cN.out.mono ?_); rintro e w1 ⟨rfl, rfl⟩)
  go_ret
  exact ⟨by simp, rfl⟩
end Go.Proofs.YtjfmbjgniajagaaGreatDoor
