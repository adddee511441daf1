/- Package edge: New, birth. -/
import Derived.Test.YtjfmbjgniajagaaGreatDoorEdgeBox
import Derived.ScopeJumps
import Derived.WalkMore
namespace Go.Proofs.YtjfmbjgniajagaaGreatDoor
open Go.RowKit

set_option maxRecDepth 100000 in
set_option maxHeartbeats 4000000 in
theorem enew_any (g nm : ByteArray) (w : World) (hg : g.toList.isEmpty = false) (hn : nm.toList.isEmpty = false) :
    Calls Tryz.prog 9 #[.string g, .string nm] w fun e w' => ∃ n L, e = .returned (.tuple #[.pointer (some ⟨n, 0, none⟩), .int .i64 0]) ∧ EdgeAt w' n g nm L ⟨false, 0, 0, false, false, [], [], []⟩ ∧ (∀ x ∈ L.feet n, w.heap.size ≤ x) ∧ Own [] w w' := by
  have g1 : (g.toList == []) = false := by cases h : g.toList with | nil => rw [h] at hg; cases hg | cons => rfl
  have n1 : (nm.toList == []) = false := by cases h : nm.toList with | nil => rw [h] at hn; cases hn | cons => rfl
  go_enter Tryz.func9, Tryz.ntmps9
  go_wp2_with (first
    | (go_at_call 22; refine (Sq.new_any _).mono ?_; rintro e w2 ⟨rb, rfl, hR, hrb, hO2⟩; replace hR := Lib.hid hR; replace hrb := Lib.hid hrb; replace hO2 := Lib.hid hO2)
    | (go_at_call 23; refine (new_any _).mono ?_; rintro e w3 ⟨tb, tm, rfl, hT, htb, htm, hO3⟩; replace hT := Lib.hid hT; replace htb := Lib.hid htb; replace htm := Lib.hid htm; replace hO3 := Lib.hid hO3))
  go_ret2
  have s2 := hO2.out.size
  have s3 := hO3.out.size
  have l1 := lt_of_heap hR.out.1
  have l2 := hT.out.lt
  have b1 := hrb.out
  have b2 := htb.out
  have b3 := htm.out
  have hne := hT.out.ne
  have hA : Own [] w3 (w3.alloc (.cells #[.string g, .string nm, .bool false, .int .i64 0, .pointer (some ⟨rb, 0, none⟩), .bool false, .slice none 0 0, .pointer (some ⟨tb, 0, none⟩), .slice none 0 0] 75)) := (Own.refl _ _).alloc _
  refine ⟨w3.heap.size, ⟨rb, tb, tm, none, 0, .slice none 0 0, []⟩, rfl, ⟨heap_alloc_new _ _, (hR.out.own (hO3.out.trans hA) (by simp)), hT.out.own hA (by simp) (by simp), OutRow.nil _ _, Sl.nil _ _ _, rfl, fun i d x hd => by simp at hd, ?_, by simp⟩, fun x hx => ?_, (hO2.out.trans hO3.out).trans hA⟩
  · simp only [EW.feet, blkOf, Value.ownBlock, Option.map_none, Option.toList_none, List.flatMap_nil, List.append_nil, List.nodup_cons, List.mem_cons, List.not_mem_nil, or_false, not_or, List.nodup_nil, and_true, not_false_eq_true]
    omega
  · simp only [EW.feet, blkOf, Value.ownBlock, Option.map_none, Option.toList_none, List.flatMap_nil, List.append_nil, List.mem_cons, List.not_mem_nil, or_false] at hx
    omega

theorem clash_any (x : Int) (w : World) : Calls Tryz.prog 51 #[.int .i64 x] w fun e w' => e = .returned (.int .i64 (clashC x)) ∧ w = w' := by
  unfold clashC
  by_cases h0 : x = 0
  · subst h0
    go_enter Tryz.func51, Tryz.ntmps51
    go_wp2_with fail
    go_ret
    exact ⟨rfl, rfl⟩
  · have k0 : (x == 0) = false := by simpa using h0
    rw [if_neg h0]
    by_cases h1 : x = 16
    · subst h1
      go_enter Tryz.func51, Tryz.ntmps51
      go_wp2_with fail
      go_ret
      exact ⟨rfl, rfl⟩
    · have k1 : (x == 16) = false := by simpa using h1
      rw [if_neg h1]
      go_enter Tryz.func51, Tryz.ntmps51
      go_wp2_with fail
      go_ret
      exact ⟨rfl, rfl⟩
/-- What a birth that is taken leaves. -/
theorem birth_end {w w5 w9 w10 : World} {n : Nat} {g nm : ByteArray} {L : EW} {s : EN} (h : EdgeAt w n g nm L s) {bd q : Int} {l : List Itm} {al : ATab} {tb tm : Nat} {a : Option Addr} {cap : Nat} (hO : Own [] w w5) (hT : Tab w5 tb tm al) (htb : w.heap.size ≤ tb) (htm : w.heap.size ≤ tm)
    (hR : OutRow w.heap.size w5 a cap l) (hlen : l.length ≤ 32) (hal : al.length ≤ 64) (hda : ∀ b, a.map (·.block) = some b → b ≠ tb ∧ b ≠ tm)
    (h9 : w9 = (((((w5.setCell ⟨n, 2, none⟩ (.bool true)).setCell ⟨n, 3, none⟩ (.int .i64 bd)).setCell ⟨n, 5, none⟩ (.bool false)).setCell ⟨n, 6, none⟩ (.slice a l.length cap)).setCell ⟨n, 7, none⟩ (.pointer (some ⟨tb, 0, none⟩))).setCell ⟨n, 8, none⟩ (.slice none 0 0))
    (hO10 : Own [L.rb] w9 w10) (hrow : Sq.RowAt w10 L.rb q true) : ∃ L', EdgeAt w10 n g nm L' ⟨true, bd, q, true, false, l, al, []⟩ ∧ Own (L.feet n) w w10 ∧ (∀ x ∈ L'.feet n, x ∈ L.feet n ∨ w.heap.size ≤ x) := by
  obtain ⟨f1, f2, f3, f4, f5⟩ := feet_n_rb h
  have hln : n < w.heap.size := lt_of_heap h.row
  have hlr : L.rb < w.heap.size := lt_of_heap h.rrow.1
  have hO9 : Own [n] w5 w9 := by
    subst h9
    exact ((((((Own.refl [n] w5).setCell (by simp) _).setCell (by simp) _).setCell (by simp) _).setCell (by simp) _).setCell (by simp) _).setCell (by simp) _
  have hr9 : w9.heap[n]? = some (.cells (edgeRow g nm ⟨L.rb, tb, tm, a, cap, .slice none 0 0, []⟩ ⟨true, bd, q, true, false, l, al, []⟩) 75 (0, 0)) := by
    subst h9
    exact heap_setCell_same _ _ _ _ _ _ (heap_setCell_same _ _ _ _ _ _ (heap_setCell_same _ _ _ _ _ _ (heap_setCell_same _ _ _ _ _ _ (heap_setCell_same _ _ _ _ _ _ (heap_setCell_same _ _ _ _ _ _ (hO.heap h.row (by simp)))))))
  have hTt := hT.lt
  have hab : ∀ b, a.map (·.block) = some b → w.heap.size ≤ b := fun b hb => by
    cases a with
    | none => cases hb
    | some p => cases hb; exact hR.fresh p rfl
  refine ⟨⟨L.rb, tb, tm, a, cap, .slice none 0 0, []⟩, ⟨hO10.heap hr9 (by simpa using f1), hrow, ?_, ?_, Sl.nil _ _ _, rfl, fun i d x hd => by simp at hd, ?_, ⟨hlen, hal, by simp⟩⟩, ?_, fun x hx => ?_⟩
  · exact (hT.own hO9 (by simp; omega) (by simp; omega)).own hO10 (by simp; omega) (by simp; omega)
  · have hR2 := (hR.own' hO9 (fun b hb => by have := hab b hb; simp; omega)).own' hO10 (fun b hb => by have := hab b hb; simp; omega)
    exact ⟨hR2.own, fun q _ => Nat.zero_le _, hR2.good⟩
  · have hne := hT.ne
    simp only [EW.feet, Value.ownBlock, Option.toList_none, List.flatMap_nil, List.append_nil, List.nodup_cons, List.mem_cons, not_or]
    have hnd : (blkOf a).Nodup := by unfold blkOf; cases a <;> simp
    have hm : ∀ b, b ∈ blkOf a → w.heap.size ≤ b ∧ b ≠ tb ∧ b ≠ tm := fun b hb => by
      unfold blkOf at hb
      have := Option.mem_toList.1 hb
      exact ⟨hab b this, hda b this⟩
    refine ⟨⟨f1, by omega, by omega, fun hx => by have := hm _ hx; omega⟩, ⟨by omega, by omega, fun hx => by have := hm _ hx; omega⟩, ⟨hne, fun hx => (hm _ hx).2.1 rfl⟩, fun hx => (hm _ hx).2.2 rfl, hnd⟩
  · have h1 : Own (L.feet n) w w9 := hO.nil.trans (hO9.mono (fun x hx => by simp at hx; subst hx; unfold EW.feet; simp))
    exact h1.trans (hO10.mono (fun x hx => by simp at hx; subst hx; unfold EW.feet; simp))
  · simp only [EW.feet, Value.ownBlock, Option.toList_none, List.flatMap_nil, List.append_nil, List.mem_cons] at hx
    rcases hx with rfl | rfl | rfl | rfl | hx
    · exact .inl (by unfold EW.feet; simp)
    · exact .inl (by unfold EW.feet; simp)
    · exact .inr htb
    · exact .inr htm
    · unfold blkOf at hx
      exact .inr (hab _ (Option.mem_toList.1 hx))
/-- What holds at the jump out of a birth that is refused: its code. -/
def Jb (C : Int) (w : World) (a : Act) (w' : World) : Prop := ∃ u0 u1 u2 u3 u4 u5 u6 u7 u8 u10 u11 u12 u13 u14 u15 u16 u17 u18 u19 u20 u21 u22 u23 u24 u25 u26 u27 u28 u29 u30 u31 u32 u33 u34 u35 u36 u37 u38 u39 u40 u41 u42 u43 u44 u45 u46 u47 u48 u49 u50 u51 u52 u53 u54 u55 u56 u57 u58 u59 u60 u61 u62 u63 u64 u65 u66 u67 u68 u69 u70 : Value, a = ⟨#[u0, u1, u2, u3, u4, u5, u6, u7, u8, .int .i64 C, u10, u11, u12, u13, u14, u15, u16, u17, u18, u19, u20, u21, u22, u23, u24, u25, u26, u27, u28, u29, u30, u31, u32, u33, u34, u35, u36, u37, u38, u39, u40, u41, u42, u43, u44, u45, u46, u47, u48, u49, u50, u51, u52, u53, u54, u55, u56, u57, u58, u59, u60, u61, u62, u63, u64, u65, u66, u67, u68, u69, u70], []⟩ ∧ Own [] w w'
set_option maxRecDepth 100000 in
set_option maxHeartbeats 8000000 in
theorem birth_any (n : Nat) (g nm : ByteArray) (L : EW) (s : EN) (dn : ByteArray) (p : Pay) (w : World) (h : EdgeAt w n g nm L s) (hM : MetsAt w p.a p.M) (h0 : 0 ≤ p.s) (hE : Errs w) :
    Calls Tryz.prog 33 #[.pointer (some ⟨n, 0, none⟩), .string dn, p.val] w (EPost n g nm L (eBirth s p) w) := by
  have hW0 := pbox_own w p
  have hP := fun W (ho : Own [] (pbox w p) W) => pbox_cells w p (S := []) (by simp) W ho
  have cB := fun W (ho : Own [] w W) => pbd_any p W (hM.nil' ho)
  have cS := fun W => pseq_any p W h0
  have cO := fun W (ho : Own [] w W) => bornp_any p.a p.M p.c W (hM.nil' ho) (hE.nil ho)
  have hsq := p.seq_ok h0
  have hbl := bornL_le p.M
  have hsame := fun W (ho : Own [] w W) => h.same ho
  have hC := fun W (ho : Own [] w W) => edge_cells h (S := []) (by simp) W ho
  have hrr := fun W (ho : Own [n] w W) => h.rrow.own ho (by simpa using (feet_n_rb h).1.symm)
  unfold EPost eBirth
  unfold Born2Post at cO
  have hv : p.val = .agg #[.int .u64 p.t, .bool p.h, .int .u64 p.s, .string p.u, .string p.b, .slice p.a p.M.length p.c] := rfl
  rw [hv] at cB cS ⊢
  simp only [pbox] at hW0 hP
  generalize p.bd = bd at *
  generalize p.seq = sq at *
  generalize p.t = pt at *
  generalize p.h = ph at *
  generalize p.s = ps at *
  generalize p.u = pu at *
  generalize p.b = pb at *
  generalize p.a = pa at *
  generalize p.c = pc at *
  generalize bornL p.M = bo at *
  generalize p.M.length = pl at *
  obtain ⟨bd1, bd2⟩ := bd
  obtain ⟨sq1, sq2⟩ := sq
  obtain ⟨bo1, bo2⟩ := bo
  simp only at *
  obtain ⟨q0, q1, q2, q3, q4, q5⟩ := hP _ (Own.refl _ _)
  clear hv hM hE h0
  replace hW0 := Lib.hid hW0
  replace hP := Lib.hid hP
  replace cB := Lib.hid cB
  replace cS := Lib.hid cS
  replace cO := Lib.hid cO
  replace hsame := Lib.hid hsame
  replace hC := Lib.hid hC
  replace hrr := Lib.hid hrr
  cases bd2 with
  | false =>
    rw [if_pos rfl]
    clear h
    go_enter Tryz.func33, Tryz.ntmps33
    go_wp2_with fail
    refine wp_scope_jumps 0 (Jb 9 w) (fun _ _ => 0) (by rfl) ?_ ?_
    · go_wp2_with (first
      | (go_at_call 23; refine (new_any _).mono ?_; rintro e w1 ⟨tb, tm, rfl, hT1, htb, htm, hO1⟩; have hX1 := hW0.out.trans hO1; obtain ⟨q0, q1, q2, q3, q4, q5⟩ := hP.out _ hO1; have cB1 := Lib.hid (cB.out _ hX1); replace hO1 := Lib.hid hO1; replace hX1 := Lib.hid hX1; replace hT1 := Lib.hid hT1; replace htb := Lib.hid htb; replace htm := Lib.hid htm)
      | (go_at_call 48; (with_reducible refine cB1.out.mono ?_); rintro e w2 ⟨rfl, hO2⟩; have hY2 := hO1.out.trans hO2; have hX2 := hX1.out.trans hO2; obtain ⟨r0, r1, r2, r3, r4, r5⟩ := hP.out _ hY2; have cS2 := Lib.hid (cS.out w2); have hT2 := Lib.hid (hT1.out.own hO2 (by simp) (by simp)); replace hO2 := Lib.hid hO2; replace hX2 := Lib.hid hX2; replace hY2 := Lib.hid hY2))
      go_step3
      exact ⟨rfl, _, _, _, _, _, _, _, _, _, _, _, _, _, _, _, _, _, _, _, _, _, _, _, _, _, _, _, _, _, _, _, _, _, _, _, _, _, _, _, _, _, _, _, _, _, _, _, _, _, _, _, _, _, _, _, _, _, _, _, _, _, _, _, _, _, _, _, _, _, _, rfl, hX2.out⟩
    · rintro a9 w9 ⟨u0, u1, u2, u3, u4, u5, u6, u7, u8, u10, u11, u12, u13, u14, u15, u16, u17, u18, u19, u20, u21, u22, u23, u24, u25, u26, u27, u28, u29, u30, u31, u32, u33, u34, u35, u36, u37, u38, u39, u40, u41, u42, u43, u44, u45, u46, u47, u48, u49, u50, u51, u52, u53, u54, u55, u56, u57, u58, u59, u60, u61, u62, u63, u64, u65, u66, u67, u68, u69, u70, rfl, hJ⟩
      replace hJ := Lib.hid hJ
      go_wp2_with fail
      simp only [Exit.jump]
      go_ret
      exact ⟨rfl, hsame.out _ hJ.out⟩
  | true =>
    rw [if_neg (by simp)]
    cases sq2 with
    | false =>
      rw [if_pos rfl]
      clear h
      go_enter Tryz.func33, Tryz.ntmps33
      go_wp2_with fail
      refine wp_scope_jumps 0 (Jb 4 w) (fun _ _ => 0) (by rfl) ?_ ?_
      · go_wp2_with (first
        | (go_at_call 23; refine (new_any _).mono ?_; rintro e w1 ⟨tb, tm, rfl, hT1, htb, htm, hO1⟩; have hX1 := hW0.out.trans hO1; obtain ⟨q0, q1, q2, q3, q4, q5⟩ := hP.out _ hO1; have cB1 := Lib.hid (cB.out _ hX1); replace hO1 := Lib.hid hO1; replace hX1 := Lib.hid hX1; replace hT1 := Lib.hid hT1; replace htb := Lib.hid htb; replace htm := Lib.hid htm)
        | (go_at_call 48; (with_reducible refine cB1.out.mono ?_); rintro e w2 ⟨rfl, hO2⟩; have hY2 := hO1.out.trans hO2; have hX2 := hX1.out.trans hO2; obtain ⟨r0, r1, r2, r3, r4, r5⟩ := hP.out _ hY2; have cS2 := Lib.hid (cS.out w2); have hT2 := Lib.hid (hT1.out.own hO2 (by simp) (by simp)); replace hO2 := Lib.hid hO2; replace hX2 := Lib.hid hX2; replace hY2 := Lib.hid hY2)
        | (go_at_call 49; (with_reducible refine cS2.out.mono ?_); rintro e w3 ⟨rfl, hO3⟩; have hY3 := hY2.out.trans hO3; have hX3 := hX2.out.trans hO3; obtain ⟨t0, t1, t2, t3, t4, t5⟩ := hP.out _ hY3; have cO3 := Lib.hid (cO.out _ hX3); have hT3 := Lib.hid (hT2.out.own hO3 (by simp) (by simp)); replace hO3 := Lib.hid hO3; replace hX3 := Lib.hid hX3; replace hY3 := Lib.hid hY3))
        go_step3
        exact ⟨rfl, _, _, _, _, _, _, _, _, _, _, _, _, _, _, _, _, _, _, _, _, _, _, _, _, _, _, _, _, _, _, _, _, _, _, _, _, _, _, _, _, _, _, _, _, _, _, _, _, _, _, _, _, _, _, _, _, _, _, _, _, _, _, _, _, _, _, _, _, _, _, rfl, hX3.out⟩
      · rintro a9 w9 ⟨u0, u1, u2, u3, u4, u5, u6, u7, u8, u10, u11, u12, u13, u14, u15, u16, u17, u18, u19, u20, u21, u22, u23, u24, u25, u26, u27, u28, u29, u30, u31, u32, u33, u34, u35, u36, u37, u38, u39, u40, u41, u42, u43, u44, u45, u46, u47, u48, u49, u50, u51, u52, u53, u54, u55, u56, u57, u58, u59, u60, u61, u62, u63, u64, u65, u66, u67, u68, u69, u70, rfl, hJ⟩
        replace hJ := Lib.hid hJ
        go_wp2_with fail
        simp only [Exit.jump]
        go_ret
        exact ⟨rfl, hsame.out _ hJ.out⟩
    | true =>
      rw [if_neg (by simp)]
      by_cases hb : bo1 = 1
      · subst hb
        rw [if_neg (by simp)]
        have hal := aSet_nil_len [] noName bo2 (by simp)
        obtain ⟨⟨st1, st2⟩, hst⟩ : ∃ st, aSet [] noName bo2 = st := ⟨_, rfl⟩
        rw [hst] at hal ⊢
        simp only at hal ⊢
        replace hst := Lib.hid hst
        by_cases hc : clashC st1 = 1
        · rw [if_neg (by simp [hc])]
          have cR := fun W (hw : Sq.RowAt W L.rb s.want s.begun) => Sq.begin_any L.rb s.want s.begun sq1 W hw
          have hsb : Sq.sBegin s.want s.begun sq1 = (0, (sq1 + 1) % 256, true) := by unfold Sq.sBegin; rw [if_pos hsq]
          rw [hsb] at cR
          unfold Sq.RowPost at cR
          have hcb : (clashC st1 != 1) = false := by simp [hc]
          replace h := Lib.hid h
          replace cR := Lib.hid cR
          replace hal := Lib.hid hal
          have hbl2 := Lib.hid hbl
          replace hc := Lib.hid hc
          clear hsb
          go_enter Tryz.func33, Tryz.ntmps33
          go_wp2_with fail
          go_step3
          go_wp2_with (first
            | (go_at_call 23; refine (new_any _).mono ?_; rintro e w1 ⟨tb, tm, rfl, hT1, htb, htm, hO1⟩; have hX1 := hW0.out.trans hO1; obtain ⟨q0, q1, q2, q3, q4, q5⟩ := hP.out _ hO1; have cB1 := Lib.hid (cB.out _ hX1); replace hO1 := Lib.hid hO1; replace hX1 := Lib.hid hX1; replace hT1 := Lib.hid hT1; replace htb := Lib.hid htb; replace htm := Lib.hid htm)
            | (go_at_call 48; (with_reducible refine cB1.out.mono ?_); rintro e w2 ⟨rfl, hO2⟩; have hY2 := hO1.out.trans hO2; have hX2 := hX1.out.trans hO2; obtain ⟨r0, r1, r2, r3, r4, r5⟩ := hP.out _ hY2; have cS2 := Lib.hid (cS.out w2); have hT2 := Lib.hid (hT1.out.own hO2 (by simp) (by simp)); replace hO2 := Lib.hid hO2; replace hX2 := Lib.hid hX2; replace hY2 := Lib.hid hY2)
            | (go_at_call 49; (with_reducible refine cS2.out.mono ?_); rintro e w3 ⟨rfl, hO3⟩; have hY3 := hY2.out.trans hO3; have hX3 := hX2.out.trans hO3; obtain ⟨t0, t1, t2, t3, t4, t5⟩ := hP.out _ hY3; have cO3 := Lib.hid (cO.out _ hX3); have hT3 := Lib.hid (hT2.out.own hO3 (by simp) (by simp)); replace hO3 := Lib.hid hO3; replace hX3 := Lib.hid hX3; replace hY3 := Lib.hid hY3)
            | (go_at_call 50; (with_reducible refine cO3.out.mono ?_); (rintro e w4 ⟨a, cap, rfl, hR4, hO4⟩; have hX4 := hX3.out.trans hO4; have hT4 := hT3.out.own hO4 (by simp) (by simp); have cA4 := set_any tb tm [] noName a bo2.length cap (itAt bo2) w4 hT4 (itemRow_of (hR4.at_ (by omega))) (by simp); rw [itList_self, hst.out] at cA4; unfold noName at cA4; simp only at cA4; replace cA4 := Lib.hid cA4; have hda := hT3.out.lt; replace hda := Lib.hid hda; replace hT4 := Lib.hid hT4; replace hR4 := Lib.hid hR4; replace hO4 := Lib.hid hO4; replace hX4 := Lib.hid hX4))
            | (go_at_call 52; (with_reducible refine cA4.out.mono ?_); rintro e w5 ⟨rfl, hT5, hO5⟩; have hX5 : Own [] w w5 := hX4.out.trans' hO5 (fun x hx => .inr (by simp at hx; subst hx; exact Nat.le_trans hW0.out.size htm.out)); obtain ⟨⟨k2, k3, k4, k5, k6, k7, k8⟩, f2, f3, f5, f6, f7, f8⟩ := hC.out _ hX5; replace hT5 := Lib.hid hT5; replace hO5 := Lib.hid hO5; replace hX5 := Lib.hid hX5)
            | (go_at_call 51; (with_reducible refine (clash_any _ _).mono ?_); rintro e w6 ⟨rfl, rfl⟩)
            | (go_at_call 53; refine (cR.out _ (hrr.out _ (hX5.out.nil.trans (by repeat (first | exact Own.refl _ _ | refine Own.setCell ?_ (by simp) _))))).mono ?_; rintro e w10 ⟨rfl, hr10, hO10⟩; replace hr10 := Lib.hid hr10; replace hO10 := Lib.hid hO10))
          go_step3
          go_wp2_with fail
          rw [Exit.noGoto_ret]
          go_ret
          have hz := hX3.out.size
          refine ⟨show Ending.returned (.int .i64 (clashC st1)) = _ by rw [hc.out], birth_end h.out hX5.out hT5.out (Nat.le_trans hW0.out.size htb.out) (Nat.le_trans hW0.out.size htm.out) ?_ hbl2.out hal.out ?_ rfl hO10.out hr10.out⟩
          · have hR5 := hR4.out.own' hO5.out (fun b hb => by
              have h1 := hda.out
              have h2 : w3.heap.size ≤ b := by
                cases a with
                | none => cases hb
                | some q => cases hb; exact hR4.out.fresh q rfl
              simp; omega)
            exact ⟨hR5.own, fun q hq => Nat.le_trans hz (hR5.fresh q hq), hR5.good⟩
          · intro b hb
            have h1 := hda.out
            have h2 : w3.heap.size ≤ b := by
              cases a with
              | none => cases hb
              | some q => cases hb; exact hR4.out.fresh q rfl
            omega
        · rw [if_pos hc]
          have hcb : (clashC st1 != 1) = true := by simpa using hc
          clear hc h
          go_enter Tryz.func33, Tryz.ntmps33
          go_wp2_with fail
          refine wp_scope_jumps 0 (Jb (clashC st1) w) (fun _ _ => 0) (by rfl) ?_ ?_
          · go_wp2_with (first
            | (go_at_call 23; refine (new_any _).mono ?_; rintro e w1 ⟨tb, tm, rfl, hT1, htb, htm, hO1⟩; have hX1 := hW0.out.trans hO1; obtain ⟨q0, q1, q2, q3, q4, q5⟩ := hP.out _ hO1; have cB1 := Lib.hid (cB.out _ hX1); replace hO1 := Lib.hid hO1; replace hX1 := Lib.hid hX1; replace hT1 := Lib.hid hT1; replace htb := Lib.hid htb; replace htm := Lib.hid htm)
            | (go_at_call 48; (with_reducible refine cB1.out.mono ?_); rintro e w2 ⟨rfl, hO2⟩; have hY2 := hO1.out.trans hO2; have hX2 := hX1.out.trans hO2; obtain ⟨r0, r1, r2, r3, r4, r5⟩ := hP.out _ hY2; have cS2 := Lib.hid (cS.out w2); have hT2 := Lib.hid (hT1.out.own hO2 (by simp) (by simp)); replace hO2 := Lib.hid hO2; replace hX2 := Lib.hid hX2; replace hY2 := Lib.hid hY2)
            | (go_at_call 49; (with_reducible refine cS2.out.mono ?_); rintro e w3 ⟨rfl, hO3⟩; have hY3 := hY2.out.trans hO3; have hX3 := hX2.out.trans hO3; obtain ⟨t0, t1, t2, t3, t4, t5⟩ := hP.out _ hY3; have cO3 := Lib.hid (cO.out _ hX3); have hT3 := Lib.hid (hT2.out.own hO3 (by simp) (by simp)); replace hO3 := Lib.hid hO3; replace hX3 := Lib.hid hX3; replace hY3 := Lib.hid hY3)
            | (go_at_call 50; (with_reducible refine cO3.out.mono ?_); (rintro e w4 ⟨a, cap, rfl, hR4, hO4⟩; have hX4 := hX3.out.trans hO4; have hT4 := hT3.out.own hO4 (by simp) (by simp); have cA4 := set_any tb tm [] noName a bo2.length cap (itAt bo2) w4 hT4 (itemRow_of (hR4.at_ (by omega))) (by simp); rw [itList_self, hst.out] at cA4; unfold noName at cA4; simp only at cA4; replace cA4 := Lib.hid cA4; have hda := hT3.out.lt; replace hda := Lib.hid hda; replace hT4 := Lib.hid hT4; replace hR4 := Lib.hid hR4; replace hO4 := Lib.hid hO4; replace hX4 := Lib.hid hX4))
            | (go_at_call 52; (with_reducible refine cA4.out.mono ?_); rintro e w5 ⟨rfl, hT5, hO5⟩; have hX5 : Own [] w w5 := hX4.out.trans' hO5 (fun x hx => .inr (by simp at hx; subst hx; exact Nat.le_trans hW0.out.size htm.out)); obtain ⟨⟨k2, k3, k4, k5, k6, k7, k8⟩, f2, f3, f5, f6, f7, f8⟩ := hC.out _ hX5; replace hT5 := Lib.hid hT5; replace hO5 := Lib.hid hO5; replace hX5 := Lib.hid hX5)
            | (go_at_call 51; (with_reducible refine (clash_any _ _).mono ?_); rintro e w6 ⟨rfl, rfl⟩))
            go_step3
            exact ⟨rfl, _, _, _, _, _, _, _, _, _, _, _, _, _, _, _, _, _, _, _, _, _, _, _, _, _, _, _, _, _, _, _, _, _, _, _, _, _, _, _, _, _, _, _, _, _, _, _, _, _, _, _, _, _, _, _, _, _, _, _, _, _, _, _, _, _, _, _, _, _, _, rfl, hX5.out⟩
          · rintro a9 w9 ⟨u0, u1, u2, u3, u4, u5, u6, u7, u8, u10, u11, u12, u13, u14, u15, u16, u17, u18, u19, u20, u21, u22, u23, u24, u25, u26, u27, u28, u29, u30, u31, u32, u33, u34, u35, u36, u37, u38, u39, u40, u41, u42, u43, u44, u45, u46, u47, u48, u49, u50, u51, u52, u53, u54, u55, u56, u57, u58, u59, u60, u61, u62, u63, u64, u65, u66, u67, u68, u69, u70, rfl, hJ⟩
            replace hJ := Lib.hid hJ
            go_wp2_with fail
            simp only [Exit.jump]
            go_ret
            exact ⟨rfl, hsame.out _ hJ.out⟩
      · rw [if_pos hb]
        have hbb : (bo1 != 1) = true := by simpa using hb
        clear hb h
        go_enter Tryz.func33, Tryz.ntmps33
        go_wp2_with fail
        refine wp_scope_jumps 0 (Jb bo1 w) (fun _ _ => 0) (by rfl) ?_ ?_
        · go_wp2_with (first
          | (go_at_call 23; refine (new_any _).mono ?_; rintro e w1 ⟨tb, tm, rfl, hT1, htb, htm, hO1⟩; have hX1 := hW0.out.trans hO1; obtain ⟨q0, q1, q2, q3, q4, q5⟩ := hP.out _ hO1; have cB1 := Lib.hid (cB.out _ hX1); replace hO1 := Lib.hid hO1; replace hX1 := Lib.hid hX1; replace hT1 := Lib.hid hT1; replace htb := Lib.hid htb; replace htm := Lib.hid htm)
          | (go_at_call 48; (with_reducible refine cB1.out.mono ?_); rintro e w2 ⟨rfl, hO2⟩; have hY2 := hO1.out.trans hO2; have hX2 := hX1.out.trans hO2; obtain ⟨r0, r1, r2, r3, r4, r5⟩ := hP.out _ hY2; have cS2 := Lib.hid (cS.out w2); have hT2 := Lib.hid (hT1.out.own hO2 (by simp) (by simp)); replace hO2 := Lib.hid hO2; replace hX2 := Lib.hid hX2; replace hY2 := Lib.hid hY2)
          | (go_at_call 49; (with_reducible refine cS2.out.mono ?_); rintro e w3 ⟨rfl, hO3⟩; have hY3 := hY2.out.trans hO3; have hX3 := hX2.out.trans hO3; obtain ⟨t0, t1, t2, t3, t4, t5⟩ := hP.out _ hY3; have cO3 := Lib.hid (cO.out _ hX3); have hT3 := Lib.hid (hT2.out.own hO3 (by simp) (by simp)); replace hO3 := Lib.hid hO3; replace hX3 := Lib.hid hX3; replace hY3 := Lib.hid hY3)
          | (go_at_call 50; (with_reducible refine cO3.out.mono ?_); (rintro e w4 ⟨a, cap, rfl, hR4, hO4⟩; have hX4 := hX3.out.trans hO4; have hT4 := hT3.out.own hO4 (by simp) (by simp); have hda := hT3.out.lt; replace hda := Lib.hid hda; replace hT4 := Lib.hid hT4; replace hR4 := Lib.hid hR4; replace hO4 := Lib.hid hO4; replace hX4 := Lib.hid hX4)))
          go_step3
          exact ⟨rfl, _, _, _, _, _, _, _, _, _, _, _, _, _, _, _, _, _, _, _, _, _, _, _, _, _, _, _, _, _, _, _, _, _, _, _, _, _, _, _, _, _, _, _, _, _, _, _, _, _, _, _, _, _, _, _, _, _, _, _, _, _, _, _, _, _, _, _, _, _, _, rfl, hX4.out⟩
        · rintro a9 w9 ⟨u0, u1, u2, u3, u4, u5, u6, u7, u8, u10, u11, u12, u13, u14, u15, u16, u17, u18, u19, u20, u21, u22, u23, u24, u25, u26, u27, u28, u29, u30, u31, u32, u33, u34, u35, u36, u37, u38, u39, u40, u41, u42, u43, u44, u45, u46, u47, u48, u49, u50, u51, u52, u53, u54, u55, u56, u57, u58, u59, u60, u61, u62, u63, u64, u65, u66, u67, u68, u69, u70, rfl, hJ⟩
          replace hJ := Lib.hid hJ
          go_wp2_with fail
          simp only [Exit.jump]
          go_ret
          exact ⟨rfl, hsame.out _ hJ.out⟩
end Go.Proofs.YtjfmbjgniajagaaGreatDoor
