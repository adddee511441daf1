/- Package edge: none, fits, took, data. -/
import Derived.Test.YtjfmbjgniajagaaGreatDoorEdgeM
import Derived.Test.YtjfmbjgniajagaaGreatDoorEdgeBox
import Derived.Deep.RegionWith
namespace Go.Proofs.YtjfmbjgniajagaaGreatDoor
open Go.RowKit

theorem enone_any (n : Nat) (b : Addr) (w : World) (h : w.cell? ⟨n, 4, none⟩ = some (.pointer (some b))) : Calls Tryz.prog 24 #[.pointer (some ⟨n, 0, none⟩)] w fun e w' => e = .returned (.bool false) ∧ w = w' := by
  go_enter Tryz.func24, Tryz.ntmps24
  go_wp2_with fail
  go_ret
  exact ⟨rfl, rfl⟩
set_option maxRecDepth 100000 in
set_option maxHeartbeats 4000000 in
theorem efits_any (n : Nat) (g nm : ByteArray) (L : EW) (s : EN) (p : Pay) (w : World) (h : EdgeAt w n g nm L s) (h0 : 0 ≤ p.s) :
    Calls Tryz.prog 57 #[.pointer (some ⟨n, 0, none⟩), p.val] w fun e w' => e = .returned (.bool (eFits s p)) ∧ Own [] w w' := by
  have hW0 := pbox_own w p
  have hP := fun W (ho : Own [] (pbox w p) W) => pbox_cells w p (S := []) (by simp) W ho
  have cS := pseq_any p (pbox w p) h0
  have hC := fun W (ho : Own [] w W) => edge_cells h (S := []) (by simp) W ho
  have cF := fun x W (ho : Own [] w W) => Sq.fits_any L.rb s.want s.begun x W (h.rrow.own ho (by simp))
  unfold eFits
  have hv : p.val = .agg #[.int .u64 p.t, .bool p.h, .int .u64 p.s, .string p.u, .string p.b, .slice p.a p.M.length p.c] := rfl
  rw [hv] at cS ⊢
  simp only [pbox] at hW0 hP cS
  generalize p.seq = sq at *
  generalize p.t = pt at *
  generalize p.h = ph at *
  generalize p.s = ps at *
  generalize p.u = pu at *
  generalize p.b = pb at *
  generalize p.a = pa at *
  generalize p.c = pc at *
  generalize p.M.length = pl at *
  obtain ⟨sq1, sq2⟩ := sq
  simp only at *
  obtain ⟨q0, q1, q2, q3, q4, q5⟩ := hP _ (Own.refl _ _)
  clear hv h h0 hP
  generalize hbw : (s.begun && sq1 == s.want) = bw at *
  have cF1 := fun W ho => cF sq1 W ho
  rw [hbw] at cF1
  replace hW0 := Lib.hid hW0
  replace cS := Lib.hid cS
  replace hC := Lib.hid hC
  replace cF1 := Lib.hid cF1
  clear hbw cF
  cases sq2
  · go_enter Tryz.func57, Tryz.ntmps57
    go_wp2_with (go_at_call 49; (with_reducible refine cS.out.mono ?_); rintro e w2 ⟨rfl, hO2⟩; replace hO2 := Lib.hid (hW0.out.trans hO2))
    go_ret
    exact ⟨rfl, hO2.out⟩
  · go_enter Tryz.func57, Tryz.ntmps57
    go_wp2_with (first
      | (go_at_call 49; (with_reducible refine cS.out.mono ?_); rintro e w2 ⟨rfl, hO2⟩; replace hO2 := hW0.out.trans hO2; obtain ⟨⟨k2, k3, k4, k5, k6, k7, k8⟩, _⟩ := hC.out _ hO2; have cF2 := Lib.hid (cF1.out _ hO2); replace hO2 := Lib.hid hO2)
      | (go_at_call 89; (with_reducible refine cF2.out.mono ?_); rintro e w3 ⟨rfl, rfl⟩))
    go_ret
    exact ⟨by simp, hO2.out⟩
set_option maxRecDepth 100000 in
set_option maxHeartbeats 4000000 in
theorem etook_any (n : Nat) (g nm : ByteArray) (L : EW) (s : EN) (p : Pay) (w : World) (h : EdgeAt w n g nm L s) (h0 : 0 ≤ p.s) (hf : eFits s p = true) :
    Calls Tryz.prog 59 #[.pointer (some ⟨n, 0, none⟩), p.val] w fun e w' => e = .returned (.int .i64 1) ∧ EdgeAt w' n g nm L { s with want := (p.seq.1 + 1) % 256 } ∧ Own [L.rb] w w' := by
  have hW0 := pbox_own w p
  have cS := pseq_any p (pbox w p) h0
  have hsq := p.seq_ok h0
  have hC := fun W (ho : Own [] w W) => edge_cells h (S := []) (by simp) W ho
  unfold eFits at hf
  simp only [Bool.and_eq_true, beq_iff_eq] at hf
  obtain ⟨hf1, hf2, hf3⟩ := hf
  have hst : Sq.sTake s.want s.begun p.seq.1 = (0, (p.seq.1 + 1) % 256, true) := by unfold Sq.sTake; rw [if_pos hsq, hf2, if_pos rfl, if_pos hf3]
  have cT := fun W (ho : Own [] w W) => Sq.take_any L.rb s.want s.begun p.seq.1 W (h.rrow.own ho (by simp))
  rw [hst] at cT
  unfold Sq.RowPost at cT
  have hend : ∀ w2 w3, Own [] w w2 → Own [L.rb] w2 w3 → Sq.RowAt w3 L.rb ((p.seq.1 + 1) % 256) true → EdgeAt w3 n g nm L { s with want := (p.seq.1 + 1) % 256 } ∧ Own [L.rb] w w3 := fun w2 w3 ho ho3 hr => by
    refine ⟨?_, ho.nil.trans ho3⟩
    have h2 := h.nil' ho
    have hA := h.apart
    have hF := feet_n_rb h
    unfold EW.feet at hA
    simp only [List.nodup_cons, List.mem_cons, List.mem_append, not_or] at hA
    have hno : ∀ x ∈ L.feet n, x ≠ L.rb → x ∉ [L.rb] := fun x _ hx => by simpa using hx
    refine ⟨ho3.heap h2.row (by simpa using hF.1), hf2 ▸ hr, h2.tab.own ho3 (by simpa using Ne.symm hF.2.2.2.1) (by simpa using Ne.symm hF.2.2.2.2), h2.its.own' ho3 (fun b hb => ?_), h2.dvs.own ho3 (fun b hb => ?_), h.len, fun i d x hd hx => ?_, h.apart, h.few⟩
    · have := blkOf_mem hb
      simp; rintro rfl
      exact hA.2.1.2.2.1 this
    · simp; rintro rfl
      exact hA.2.1.2.2.2.1 (by simp [hb])
    · obtain ⟨k1, k2, k3⟩ := h2.devs i d x hd hx
      have hm : d ∈ L.ds := List.mem_of_getElem? hd
      have hn2 : ∀ b, b ∈ d.blk :: blkOf d.a → b ≠ L.rb := fun b hb e => by
        subst e
        exact hA.2.1.2.2.2.2 (List.mem_flatMap.2 ⟨d, hm, hb⟩)
      exact ⟨ho3.heap k1 (by simpa using hn2 _ (List.mem_cons_self ..)), k2.own' ho3 (fun b hb => by simpa using hn2 b (List.mem_cons_of_mem _ (blkOf_mem hb))), k3⟩
  have hv : p.val = .agg #[.int .u64 p.t, .bool p.h, .int .u64 p.s, .string p.u, .string p.b, .slice p.a p.M.length p.c] := rfl
  have hP := pbox_cells w p (S := []) (by simp) _ (Own.refl _ _)
  rw [hv] at cS ⊢
  simp only [pbox] at hW0 hP cS
  generalize p.seq = sq at *
  generalize p.t = pt at *
  generalize p.h = ph at *
  generalize p.s = ps at *
  generalize p.u = pu at *
  generalize p.b = pb at *
  generalize p.a = pa at *
  generalize p.c = pc at *
  generalize p.M.length = pl at *
  obtain ⟨sq1, sq2⟩ := sq
  simp only at *
  obtain ⟨q0, q1, q2, q3, q4, q5⟩ := hP
  replace hW0 := Lib.hid hW0
  replace cS := Lib.hid cS
  replace hC := Lib.hid hC
  replace cT := Lib.hid cT
  replace hend := Lib.hid hend
  clear hv h h0 hst hf1 hf2 hf3 hsq
  go_enter Tryz.func59, Tryz.ntmps59
  go_wp2_with (first
    | (go_at_call 49; (with_reducible refine cS.out.mono ?_); rintro e w2 ⟨rfl, hO2⟩; replace hO2 := hW0.out.trans hO2; obtain ⟨⟨k2, k3, k4, k5, k6, k7, k8⟩, _⟩ := hC.out _ hO2; have cT2 := Lib.hid (cT.out _ hO2); replace hO2 := Lib.hid hO2)
    | (go_at_call 91; (with_reducible refine cT2.out.mono ?_); rintro e w3 ⟨rfl, hr3, hO3⟩; replace hr3 := Lib.hid hr3; replace hO3 := Lib.hid hO3))
  go_ret
  exact ⟨rfl, hend.out _ _ hO2.out hO3.out hr3.out⟩
theorem feet_items {L : EW} {n B : Nat} (h : (L.feet n).Nodup) (hlt : ∀ x ∈ L.feet n, x < B) {a : Option Addr} (ha : ∀ b, a.map (·.block) = some b → B ≤ b) (cap : Nat) :
    (({ L with ia := a, ic := cap } : EW).feet n).Nodup ∧ ∀ x ∈ ({ L with ia := a, ic := cap } : EW).feet n, x ∈ L.feet n ∨ B ≤ x := by
  unfold EW.feet at h hlt ⊢
  simp only
  generalize hr : (L.dv.ownBlock.toList ++ L.ds.flatMap fun d => d.blk :: blkOf d.a) = R at h hlt ⊢
  have hsub : (n :: L.rb :: L.tb :: L.tm :: R).Sublist (n :: L.rb :: L.tb :: L.tm :: (blkOf L.ia ++ R)) := (((List.Sublist.cons_cons _ ((List.sublist_append_right _ _).cons_cons _ |>.cons_cons _ |>.cons_cons _)))) 
  have h2 := h.sublist hsub
  have hlt2 : ∀ x ∈ n :: L.rb :: L.tb :: L.tm :: R, x < B := fun x hx => hlt x (hsub.subset hx)
  have hp : (n :: L.rb :: L.tb :: L.tm :: (blkOf a ++ R)).Perm (blkOf a ++ (n :: L.rb :: L.tb :: L.tm :: R)) := by
    have := List.perm_append_comm_assoc [n, L.rb, L.tb, L.tm] (blkOf a) R
    simpa using this
  have hm : ∀ b ∈ blkOf a, B ≤ b := fun b hb => ha b (by unfold blkOf at hb; exact Option.mem_toList.1 hb)
  refine ⟨hp.nodup_iff.2 (List.nodup_append.2 ⟨by unfold blkOf; cases a <;> simp, h2, fun x hx y hy e => ?_⟩), fun x hx => ?_⟩
  · have := hm x hx; have := hlt2 y hy; omega
  · rcases List.mem_append.1 (hp.subset hx) with h3 | h3
    · exact .inr (hm x h3)
    · exact .inl (hsub.subset h3)
/-- The node's items are others. -/
theorem EdgeAt.setItems {w w2 : World} {n : Nat} {g nm : ByteArray} {L : EW} {s : EN} (h : EdgeAt w n g nm L s) (ho : Own [] w w2) {a : Option Addr} {cap : Nat} {l : List Itm} (hR : OutRow w.heap.size w2 a cap l) (hl : l.length ≤ 32) :
    EdgeAt (w2.setCell ⟨n, 6, none⟩ (.slice a l.length cap)) n g nm { L with ia := a, ic := cap } { s with items := l } ∧ Own [n] w2 (w2.setCell ⟨n, 6, none⟩ (.slice a l.length cap)) ∧ (∀ x ∈ ({ L with ia := a, ic := cap } : EW).feet n, x ∈ L.feet n ∨ w.heap.size ≤ x) := by
  have hO2 : Own [n] w2 (w2.setCell ⟨n, 6, none⟩ (.slice a l.length cap)) := (Own.refl _ _).setCell (by simp) _
  have hab : ∀ b, a.map (·.block) = some b → w.heap.size ≤ b := fun b hb => by
    cases a with
    | none => cases hb
    | some p => cases hb; exact hR.fresh p rfl
  have hF := feet_items h.apart h.lt hab cap
  have hln : n < w.heap.size := lt_of_heap h.row
  have hA := h.apart
  unfold EW.feet at hA
  simp only [List.nodup_cons, List.mem_cons, List.mem_append, not_or] at hA
  obtain ⟨⟨a1, a2, a3, a4, a5, a6⟩, _⟩ := hA
  have h2 := h.nil' ho
  refine ⟨⟨heap_setCell_same _ _ _ _ _ _ h2.row, h2.rrow.own hO2 (by simpa using Ne.symm a1), h2.tab.own hO2 (by simpa using Ne.symm a2) (by simpa using Ne.symm a3), ?_, h2.dvs.own hO2 (fun b hb => ?_), h.len, fun i d x hd hx => ?_, hF.1, ⟨hl, h.few.2⟩⟩, hO2, hF.2⟩
  · have := hR.own' hO2 (fun b hb => by have := hab b hb; simp; omega)
    exact ⟨this.own, fun q _ => Nat.zero_le _, this.good⟩
  · simp; rintro rfl
    exact a5 (by simp [hb])
  · obtain ⟨k1, k2, k3⟩ := h2.devs i d x hd hx
    have hm : d ∈ L.ds := List.mem_of_getElem? hd
    have hn2 : ∀ b, b ∈ d.blk :: blkOf d.a → b ≠ n := fun b hb e => by
      subst e
      exact a6 (List.mem_flatMap.2 ⟨d, hm, hb⟩)
    exact ⟨hO2.heap k1 (by simpa using hn2 _ (List.mem_cons_self ..)), k2.own' hO2 (fun b hb => by simpa using hn2 b (List.mem_cons_of_mem _ (blkOf_mem hb))), k3⟩
end Go.Proofs.YtjfmbjgniajagaaGreatDoor
