/- The document's node (chapter 33): death, what a device tells. The program's node and the document's do the same. Plain. The document's node (chapter 33): a device's birth. -/
import Derived.Test.YtjfmbjgniajagaaGreatDoorEdgeDocA
import Derived.Deep.RegionHeld3
set_option linter.unusedSimpArgs false
set_option linter.unusedVariables false
namespace Go.Proofs.YtjfmbjgniajagaaGreatDoor
open Go.RowKit

def xDData (s : EN) (dn : ByteArray) (p : Pay) : Int × EN :=
  if eLive s dn p ≠ 1 then (eLive s dn p, s) else match s.dev[rPos Dev.name s.dev dn]? with
  | none => (5, s)
  | some x => if (updGo (rFind s.al dn) p.M x.items).1 ≠ 1 then ((updGo (rFind s.al dn) p.M x.items).1, s)
    else (1, { s with dev := s.dev.set (rPos Dev.name s.dev dn) ⟨x.name, true, (updGo (rFind s.al dn) p.M x.items).2⟩, want := (s.want + 1) % 256 })
def xDDeath (s : EN) (dn : ByteArray) (p : Pay) : Int × EN :=
  if eLive s dn p ≠ 1 then (eLive s dn p, s) else match s.dev[rPos Dev.name s.dev dn]? with
  | none => (5, s)
  | some x => (1, { s with al := aOthers s.al dn, dev := s.dev.set (rPos Dev.name s.dev dn) ⟨x.name, false, x.items⟩, want := (s.want + 1) % 256 })
theorem ydrop_tab {W : World} {n : Nat} {g nm : ByteArray} {Y : YW} {s : EN} (h : YAt W n g nm Y s) (dn : ByteArray) :
    Calls Tryz.prog 77 #[.pointer (some ⟨Y.ab, 0, none⟩), .string dn] W fun e w' => (∃ c, e = .returned (.int .i64 c)) ∧ ∃ Y', YAt w' n g nm Y' { s with al := aOthers s.al dn } ∧ YLeft n Y W w' Y' := by
  refine (rdrop_any Y.ab Y.av s.al dn W h.tab (by have := h.few.1.2.1; omega)).mono ?_
  rintro e w' ⟨rfl, v', hT, hO, hv⟩
  have hn : n ≠ Y.ab := by
    have := h.apart.1
    unfold YW.feet at this
    simp only [List.nodup_cons, List.mem_cons, not_or] at this
    exact this.1.1
  obtain ⟨h1, h2⟩ := h.chg (s' := { s with al := aOthers s.al dn }) (ab' := Y.ab) (v' := v') (hO.mono (by simp)) (hO.heap h.row (by simpa using hn)) hT (.inl rfl) hv rfl rfl (Nat.le_trans (List.length_filter_le _ _) h.few.1.2.1)
  exact ⟨⟨_, rfl⟩, _, h1, h2⟩
theorem yset_tab {W : World} {n : Nat} {g nm : ByteArray} {Y : YW} {s : EN} (h : YAt W n g nm Y s) (dn : ByteArray) (a : Option Addr) (l : List Itm) (c : Nat) (hA : ItemsAt W a l) (ha : ∀ b, a.map (·.block) = some b → b ∉ Y.feet n) (hz : rTry s.al dn l = 0) :
    Calls Tryz.prog 70 #[.pointer (some ⟨Y.ab, 0, none⟩), .string dn, .slice a l.length c] W fun e w' => (∃ c, e = .returned (.int .i64 c)) ∧ ∃ Y', YAt w' n g nm Y' { s with al := (rSet s.al dn l).2 } ∧ YLeft n Y W w' Y' ∧ Y'.dv = Y.dv ∧ Y'.ds = Y.ds ∧ ItemsAt w' a l := by
  have hab0 : Y.ab ∈ Y.feet n := by unfold YW.feet; simp
  refine (rset_any Y.ab Y.av s.al dn a l c W h.tab (by have := h.few.1.2.1; omega) hA (fun _ q hq e => ha q.block (by rw [hq]; simp) (e ▸ hab0))).mono ?_
  rintro e w' ⟨rfl, v', hT, hO, hv⟩
  have hz1 : (rSet s.al dn l).1 = 0 := by unfold rSet; rw [if_pos hz]
  have hn : n ≠ Y.ab := by
    have := h.apart.1
    unfold YW.feet at this
    simp only [List.nodup_cons, List.mem_cons, not_or] at this
    exact this.1.1
  obtain ⟨h1, h2⟩ := h.chg (s' := { s with al := (rSet s.al dn l).2 }) (ab' := Y.ab) (v' := v') (hO.mono (by simp)) (hO.heap h.row (by simpa using hn)) hT (.inl rfl) (hv hz1) rfl rfl (rSet_few hz)
  exact ⟨⟨_, rfl⟩, _, h1, h2, rfl, rfl, hA.own hO (fun b hb => by simp; rintro rfl; exact ha _ hb hab0)⟩
theorem ydies_d {W : World} {n : Nat} {g nm : ByteArray} {Y : YW} {s : EN} (h : YAt W n g nm Y s) {i : Nat} {x : Dev} (hx : s.dev[i]? = some x) (hon : x.on = true) {gb cp : Nat} (hdv : Y.dv = .slice (some ⟨gb, 0, none⟩) s.dev.length cp) :
    Calls Tryz.prog 76 #[.pointer (some ⟨gb, i * 4, none⟩)] W fun e w' => (∃ v, e = .returned v) ∧ ∃ Y', YAt w' n g nm Y' { s with dev := s.dev.set i ⟨x.name, false, x.items⟩ } ∧ YLeft n Y W w' Y' := by
  obtain ⟨gb2, cp2, d, e1, hd, hxd, hR⟩ := yd_at h (List.getElem?_eq_some_iff.1 hx).1
  rw [hdv] at e1
  cases e1
  rw [hx] at hxd
  cases hxd
  have hm := List.mem_of_getElem? hd
  have hgf : gb ∈ Y.feet n := YW.feet_dv (by rw [hdv]; rfl)
  refine (ydies_any gb cp Y.ds i d W hR hd hon (h.itd d hm) (fun b hb => ⟨fun e => h.apart.2 b (YW.held_d hm hb) (e ▸ hgf), h.lt b (YW.held_d hm hb)⟩)).mono ?_
  rintro e w' ⟨hv, hP⟩
  obtain ⟨Y', h1, h2, _⟩ := h.setD hdv hP (show d.x.items.length ≤ 32 from h.few.2 _ (List.mem_of_getElem? hx))
  exact ⟨hv, Y', h1, h2⟩
theorem ytold_d {W : World} {n : Nat} {g nm : ByteArray} {Y : YW} {s : EN} (h : YAt W n g nm Y s) {i : Nat} {x : Dev} (hx : s.dev[i]? = some x) (hon : x.on = true) {gb cp : Nat} (hdv : Y.dv = .slice (some ⟨gb, 0, none⟩) s.dev.length cp) (a : Option Addr) (l : List Itm) (c : Nat) (hA : ItemsAt W a l) (hl : l.length ≤ 32) :
    Calls Tryz.prog 78 #[.pointer (some ⟨gb, i * 4, none⟩), .slice a l.length c] W fun e w' => (∃ v, e = .returned v) ∧ ∃ Y', YAt w' n g nm Y' { s with dev := s.dev.set i ⟨x.name, true, l⟩ } ∧ YLeft n Y W w' Y' := by
  obtain ⟨gb2, cp2, d, e1, hd, hxd, hR⟩ := yd_at h (List.getElem?_eq_some_iff.1 hx).1
  rw [hdv] at e1
  cases e1
  rw [hx] at hxd
  cases hxd
  refine (ytold_any gb cp Y.ds i d a l c W hR hd hon hA hl).mono ?_
  rintro e w' ⟨hv, hP⟩
  obtain ⟨Y', h1, h2, _⟩ := h.setD hdv hP hl
  exact ⟨hv, Y', h1, h2⟩
theorem yborn_d {W : World} {n : Nat} {g nm : ByteArray} {Y : YW} {s : EN} (h : YAt W n g nm Y s) {i : Nat} {x : Dev} (hx : s.dev[i]? = some x) {gb cp : Nat} (hdv : Y.dv = .slice (some ⟨gb, 0, none⟩) s.dev.length cp) (a : Option Addr) (l : List Itm) (c : Nat) (hA : ItemsAt W a l) (ha : ∀ b, a.map (·.block) = some b → b ∉ Y.feet n) (hl : l.length ≤ 32) :
    Calls Tryz.prog 75 #[.pointer (some ⟨gb, i * 4, none⟩), .slice a l.length c] W fun e w' => (∃ v, e = .returned v) ∧ ∃ Y', YAt w' n g nm Y' { s with dev := s.dev.set i ⟨x.name, true, l⟩ } ∧ YLeft n Y W w' Y' := by
  obtain ⟨gb2, cp2, d, e1, hd, hxd, hR⟩ := yd_at h (List.getElem?_eq_some_iff.1 hx).1
  rw [hdv] at e1
  cases e1
  rw [hx] at hxd
  cases hxd
  have hgf : gb ∈ Y.feet n := YW.feet_dv (by rw [hdv]; rfl)
  refine (yborn_any gb cp Y.ds i d a l c W hR hd hA (fun b hb e => ha b hb (e ▸ hgf)) hl).mono ?_
  rintro e w' ⟨hv, hP⟩
  obtain ⟨Y', h1, h2, _⟩ := h.setD hdv hP hl
  exact ⟨hv, Y', h1, h2⟩
theorem ytook_one {W : World} {n : Nat} {g nm : ByteArray} {Y : YW} {s : EN} (h : YAt W n g nm Y s) (h0 : 0 ≤ s.want) (h1 : s.want < 256) :
    Calls Tryz.prog 73 #[.pointer (some ⟨n, 0, none⟩)] W fun e w' => (∃ v, e = .returned v) ∧ ∃ Y', YAt w' n g nm Y' { s with want := (s.want + 1) % 256 } ∧ YLeft n Y W w' Y' :=
  (ytook_any n g nm Y s W h h0 h1).mono fun _ _ ⟨q1, q2, q3⟩ => ⟨q1, _, q2, q3⟩
set_option maxRecDepth 100000 in
set_option maxHeartbeats 8000000 in
theorem ytells_any (n : Nat) (g nm : ByteArray) (Y : YW) (s : EN) (k : Int) (hk : k = 6 ∨ k = 7) (dn : ByteArray) (p : Pay) (w : World) (h : YAt w n g nm Y s) (hr : Rises Dev.name s.dev) (hM : MetsAt w p.a p.M) (h0 : 0 ≤ p.s) :
    Calls Tryz.prog 47 #[.pointer (some ⟨n, 0, none⟩), .int .i64 k, .string dn, p.val] w (YPost n g nm Y (if k = 6 then xDDeath s dn p else xDData s dn p) w) := by
  have hW0 := pbox_own w p
  have hP := fun W (ho : Own [] (pbox w p) W) => pbox_cells w p (S := []) (by simp) W ho
  have hC := Lib.hid fun W (ho : Own [] w W) => ycells h W ho
  have hsame := Lib.hid fun W (ho : Own [] w W) => h.same ho
  have cFi := fun W (ho : Own [] w W) => yfind_any n g nm Y s dn W (h.nil' ho) hr
  have cF := fun W (ho : Own [] w W) => yfits_any n g nm Y s p W (h.nil' ho) h0
  have hv : p.val = .agg #[.int .u64 p.t, .bool p.h, .int .u64 p.s, .string p.u, .string p.b, .slice p.a p.M.length p.c] := rfl
  unfold YPost
  rw [hv] at cF ⊢
  simp only [pbox] at hW0 hP
  obtain ⟨p0, p1, p2, p3, p4, p5⟩ := hP _ (Own.refl _ _)
  have hl4 := h.few.1.2.2
  have hW0s := Lib.hid hW0
  by_cases hlv : eLive s dn p = 1
  · obtain ⟨hon, hhas, ⟨x, hx, hxo, hxn⟩, hft⟩ := eLive_one hlv
    have hpos : ePos s.dev dn = (rPos Dev.name s.dev dn : Nat) := by unfold ePos; rw [if_pos hhas]
    have hil := (List.getElem?_eq_some_iff.1 hx).1
    obtain ⟨hw0, hw1, _⟩ := fits_want h0 hft
    obtain ⟨gb, cp, d, hdv, hd, hxd, hR0⟩ := yd_at h hil
    have hdd : d.x = x := by rw [hx] at hxd; cases hxd; rfl
    have hRc := Lib.hid fun W (ho : Own [] w W) => yd_cells (hR0.own ho (by simp)) hd
    rw [hdd] at hRc
    have hres : (if k = 6 then xDDeath s dn p else xDData s dn p) = if k = 6 then (1, { s with al := aOthers s.al dn, dev := s.dev.set (rPos Dev.name s.dev dn) ⟨x.name, false, x.items⟩, want := (s.want + 1) % 256 }) else if (updGo (rFind s.al dn) p.M x.items).1 ≠ 1 then ((updGo (rFind s.al dn) p.M x.items).1, s)
      else (1, { s with dev := s.dev.set (rPos Dev.name s.dev dn) ⟨x.name, true, (updGo (rFind s.al dn) p.M x.items).2⟩, want := (s.want + 1) % 256 }) := by
      have e6 : xDDeath s dn p = (1, { s with al := aOthers s.al dn, dev := s.dev.set (rPos Dev.name s.dev dn) ⟨x.name, false, x.items⟩, want := (s.want + 1) % 256 }) := by
        unfold xDDeath
        rw [if_neg (by simpa using hlv), hx]
      have e7 : xDData s dn p = if (updGo (rFind s.al dn) p.M x.items).1 ≠ 1 then ((updGo (rFind s.al dn) p.M x.items).1, s)
          else (1, { s with dev := s.dev.set (rPos Dev.name s.dev dn) ⟨x.name, true, (updGo (rFind s.al dn) p.M x.items).2⟩, want := (s.want + 1) % 256 }) := by
        unfold xDData
        rw [if_neg (by simpa using hlv), hx]
      rw [e6, e7]
    rw [hres]
    rw [hpos] at cFi
    rw [hft] at cF
    rw [hdv, hon] at hC
    rw [hxo] at hRc
    have hxl := h.few.2 x (List.mem_of_getElem? hx)
    have cD := fun W (ho : Own [] w W) => ydies_d (h.nil' ho) hx hxo hdv
    have cR := Lib.hid fun W Y' s' (hk : YAt W n g nm Y' s') => ydrop_tab hk dn
    have hC2 := Lib.hid fun W Y' s' (hk : YAt W n g nm Y' s') => ycells hk W (Own.refl _ _)
    have cK := Lib.hid fun W Y' (s' : EN) (hk : YAt W n g nm Y' s') (q0 : 0 ≤ s'.want) (q1 : s'.want < 256) => ytook_one hk q0 q1
    have cU := fun W (ho : Own [] w W) => rupd_any d.a x.items d.cap p.a p.M p.c Y.ab Y.av s.al dn W (by rw [← hdd]; exact (h.nil' ho).itd d (List.mem_of_getElem? hd)) (hM.nil' ho) ((h.nil' ho).tab) (by have := h.few.1.2.1; omega) (by omega)
    have hul := Nat.le_trans (updGo_len (rFind s.al dn) p.M x.items) hxl
    have cT := fun W (ho : Own [] w W) a cap (hA : ItemsAt W a (updGo (rFind s.al dn) p.M x.items).2) => ytold_d (h.nil' ho) hx hxo hdv a _ cap hA hul
    unfold Born2Post at cU
    generalize rPos Dev.name s.dev dn = pos at *
    generalize s.dev.length = N at *
    have k1 : (pos : Int) < N := by omega
    have k0 : (0 : Int) ≤ pos := by omega
    have hw := Lib.hid (And.intro hw0 hw1)
    have hn0 : decide ((pos : Int) < 0) = false := by simp
    replace cFi := Lib.hid cFi
    replace cF := Lib.hid cF
    replace cD := Lib.hid cD
    replace cU := Lib.hid cU
    replace cT := Lib.hid cT
    replace hP := Lib.hid hP
    have hon2 := Lib.hid hon
    clear h hr hM h0 hv hlv hhas hx hxo hxn hft hpos hdv hd hxd hR0 hdd hres hw0 hw1 hW0 hon hxl
    rcases hk with rfl | rfl
    · rw [if_pos rfl]
      clear hul cU cT
      go_enter Tryz.func47, Tryz.ntmps47
      go_wp2_with (first
        | (go_at_call 74; (with_reducible refine (cFi.out _ hW0s.out).mono ?_); rintro e w2 ⟨rfl, hO2⟩; have hX2 := hW0s.out.trans hO2; obtain ⟨⟨c0, c1, c2, c3, c4, c5, c6, c7, c8, c9⟩, _⟩ := hC.out _ hX2; obtain ⟨⟨d0, d1, d2, d3⟩, _⟩ := hRc.out _ hX2; obtain ⟨r0, r1, r2, r3, r4, r5⟩ := hP.out _ hO2; replace hX2 := Lib.hid hX2; replace hO2 := Lib.hid hO2)
        | (go_at_call 71; (with_reducible refine (cF.out _ hX2.out).mono ?_); rintro e w3 ⟨rfl, hO3⟩; have hX3 := hX2.out.trans hO3; obtain ⟨⟨e0, e1, e2, e3, e4, e5, e6, e7, e8, e9⟩, _⟩ := hC.out _ hX3; have cD3 := Lib.hid (cD.out _ hX3); replace hX3 := Lib.hid hX3; clear hO3)
        | (go_at_call 76; (with_reducible refine cD3.out.mono ?_); rintro e w4 ⟨⟨v4, rfl⟩, Y4, hE4, hL4⟩; obtain ⟨⟨_, _, _, _, _, _, _, _, g8, _⟩, _⟩ := hC2.out _ _ _ hE4; have cR4 := Lib.hid (cR.out _ _ _ hE4); replace hL4 := Lib.hid ((YLeft.nil hX3.out).trans hL4); clear hE4)
        | (go_at_call 77; (with_reducible refine cR4.out.mono ?_); rintro e w5 ⟨⟨v5, rfl⟩, Y5, hE5, hL5⟩; have cK5 := Lib.hid (cK.out _ _ _ hE5 hw.out.1 hw.out.2); replace hL5 := Lib.hid (hL4.out.trans hL5); clear hE5)
        | (go_at_call 73; (with_reducible refine cK5.out.mono ?_); rintro e w6 ⟨⟨v6, rfl⟩, Y6, hE6, hL6⟩; replace hE6 := Lib.hid hE6; replace hL6 := Lib.hid (hL5.out.trans hL6)))
      go_ret
      exact ⟨rfl, Y6, hE6.out, hL6.out⟩
    · rw [if_neg (by decide)]
      have hS := Lib.hid fun W (ho : Own [] (w.alloc (.cells #[.int .u64 p.t, .bool p.h, .int .u64 p.s, .string p.u, .string p.b, .slice p.a p.M.length p.c] 39)) W) => (show W.cell? ⟨n, 9, none⟩ = some (.slice (some ⟨gb, 0, none⟩) N cp) ∧ W.cell? ⟨n, 8, none⟩ = some (.pointer (some ⟨Y.ab, 0, none⟩)) ∧ W.cell? ⟨gb, pos * 4 + 2, none⟩ = some (.slice d.a x.items.length d.cap) ∧ W.cell? ⟨w.heap.size, 5, none⟩ = some (.slice p.a p.M.length p.c) from
        ⟨(hC.out _ (hW0s.out.trans ho)).1.2.2.2.2.2.2.2.2.2, (hC.out _ (hW0s.out.trans ho)).1.2.2.2.2.2.2.2.2.1, (hRc.out _ (hW0s.out.trans ho)).1.2.2.1, (hP.out _ ho).2.2.2.2.2⟩)
      generalize updGo (rFind s.al dn) p.M x.items = up at *
      obtain ⟨up1, up2⟩ := up
      simp only at *
      have hul2 := Lib.hid hul
      clear hul cD
      by_cases hu : up1 = 1
      · subst hu
        rw [if_neg (by simp)]
        go_enter Tryz.func47, Tryz.ntmps47
        go_wp2_with (first
          | (go_at_call 74; (with_reducible refine (cFi.out _ hW0s.out).mono ?_); rintro e w2 ⟨rfl, hO2⟩; have hX2 := hW0s.out.trans hO2; obtain ⟨⟨c0, c1, c2, c3, c4, c5, c6, c7, c8, c9⟩, _⟩ := hC.out _ hX2; obtain ⟨⟨d0, d1, d2, d3⟩, _⟩ := hRc.out _ hX2; obtain ⟨r0, r1, r2, r3, r4, r5⟩ := hP.out _ hO2; replace hX2 := Lib.hid hX2; replace hO2 := Lib.hid hO2)
          | (go_at_call 71; (with_reducible refine (cF.out _ hX2.out).mono ?_); rintro e w3 ⟨rfl, hO3⟩; have hX3 := hX2.out.trans hO3; have hO23 := hO2.out.trans hO3; have kS := hS.out _ hO23.drew; have cU3 := Lib.hid (cU.out _ hX3.drew); replace hX3 := Lib.hid hX3.drew; replace hO23 := Lib.hid hO23.drew; clear hO3))
        go_region_held3 (fun W => W.cell? ⟨n, 9, none⟩ = some (.slice (some ⟨gb, 0, none⟩) N cp) ∧ W.cell? ⟨n, 8, none⟩ = some (.pointer (some ⟨Y.ab, 0, none⟩)) ∧ W.cell? ⟨gb, pos * 4 + 2, none⟩ = some (.slice d.a x.items.length d.cap) ∧ W.cell? ⟨w.heap.size, 5, none⟩ = some (.slice p.a p.M.length p.c))
          (first | exact kS | go_keep | exact kA)
          ((go_at_call 72; (with_reducible refine cU3.out.mono ?_); rintro e w4 ⟨a4, cap4, rfl, hR4, hO4⟩; have hX4 := hX3.out.trans hO4; have hO24 := hO23.out.trans hO4; have kA := hS.out _ hO24; have k9 := kA.1; have cT4 := Lib.hid (cT.out _ hX4 _ cap4 (hR4.at_ (by have := hul2.out; omega))); replace hX4 := Lib.hid hX4; clear hR4 hO4 hO24))
        all_goals
          go_wp2_with (first
            | (go_at_call 78; (with_reducible refine cT4.out.mono ?_); rintro e w5 ⟨⟨v5, rfl⟩, Y5, hE5, hL5⟩; have cK5 := Lib.hid (cK.out _ _ _ hE5 hw.out.1 hw.out.2); replace hL5 := Lib.hid ((YLeft.nil hX4.out).trans hL5); clear hE5)
            | (go_at_call 73; (with_reducible refine cK5.out.mono ?_); rintro e w6 ⟨⟨v6, rfl⟩, Y6, hE6, hL6⟩; replace hE6 := Lib.hid hE6; replace hL6 := Lib.hid (hL5.out.trans hL6)))
          go_ret
          exact ⟨rfl, Y6, hE6.out, hL6.out⟩
      · rw [if_pos hu]
        have hu1 : (up1 != 1) = true := by simpa using hu
        clear hu cT
        go_enter Tryz.func47, Tryz.ntmps47
        go_wp2_with (first
          | (go_at_call 74; (with_reducible refine (cFi.out _ hW0s.out).mono ?_); rintro e w2 ⟨rfl, hO2⟩; have hX2 := hW0s.out.trans hO2; obtain ⟨⟨c0, c1, c2, c3, c4, c5, c6, c7, c8, c9⟩, _⟩ := hC.out _ hX2; obtain ⟨⟨d0, d1, d2, d3⟩, _⟩ := hRc.out _ hX2; obtain ⟨r0, r1, r2, r3, r4, r5⟩ := hP.out _ hO2; replace hX2 := Lib.hid hX2; replace hO2 := Lib.hid hO2)
          | (go_at_call 71; (with_reducible refine (cF.out _ hX2.out).mono ?_); rintro e w3 ⟨rfl, hO3⟩; have hX3 := hX2.out.trans hO3; have hO23 := hO2.out.trans hO3; have kS := hS.out _ hO23.drew; have cU3 := Lib.hid (cU.out _ hX3.drew); replace hX3 := Lib.hid hX3.drew; replace hO23 := Lib.hid hO23.drew; clear hO3))
        go_region_held3 (fun W => W.cell? ⟨n, 9, none⟩ = some (.slice (some ⟨gb, 0, none⟩) N cp) ∧ W.cell? ⟨n, 8, none⟩ = some (.pointer (some ⟨Y.ab, 0, none⟩)) ∧ W.cell? ⟨gb, pos * 4 + 2, none⟩ = some (.slice d.a x.items.length d.cap) ∧ W.cell? ⟨w.heap.size, 5, none⟩ = some (.slice p.a p.M.length p.c))
          (first | exact kS | go_keep | exact kA)
          ((go_at_call 72; (with_reducible refine cU3.out.mono ?_); rintro e w4 ⟨a4, cap4, rfl, hR4, hO4⟩; have hX4 := hX3.out.trans hO4; have hO24 := hO23.out.trans hO4; have kA := hS.out _ hO24; replace hX4 := Lib.hid hX4; clear hR4 hO4 hO24))
        all_goals
          go_wp2_with fail
          go_ret
          exact ⟨rfl, hsame.out _ hX4.out⟩
  · have hres : (if k = 6 then xDDeath s dn p else xDData s dn p) = (eLive s dn p, s) := by
      unfold xDDeath xDData
      rw [if_pos hlv, if_pos hlv]
      split <;> rfl
    rw [hres]
    clear hres
    replace hP := Lib.hid hP
    have hcase : (s.online = false ∧ eLive s dn p = 5) ∨ (s.online = true ∧ rHas Dev.name s.dev dn = false ∧ eLive s dn p = 5) ∨ ∃ x, s.online = true ∧ rHas Dev.name s.dev dn = true ∧ s.dev[rPos Dev.name s.dev dn]? = some x ∧ ((x.on = false ∧ eLive s dn p = 5) ∨ (x.on = true ∧ eFits s p = false ∧ eLive s dn p = 4)) := by
      unfold eLive at hlv ⊢
      cases ho : s.online with
      | false => exact .inl ⟨rfl, by simp⟩
      | true =>
        cases hh : rHas Dev.name s.dev dn with
        | false => exact .inr (.inl ⟨rfl, rfl, by simp⟩)
        | true =>
          obtain ⟨x, hx, hn⟩ := rHas_some hh
          refine .inr (.inr ⟨x, rfl, rfl, hx, ?_⟩)
          rw [ho, hh, hx] at hlv
          simp only [hx]
          cases hxo : x.on with
          | false => exact .inl ⟨rfl, by simp [hxo]⟩
          | true =>
            cases hf : eFits s p with
            | false => exact .inr ⟨rfl, rfl, by simp [hxo]⟩
            | true => simp [hxo, hf] at hlv
    rcases hcase with ⟨hon, he⟩ | ⟨hon, hh, he⟩ | ⟨x, hon, hh, hx, hor⟩
    · rw [he]
      rw [hon] at hC
      obtain ⟨da, dc, hdv⟩ := h.dvs.sl
      rw [hdv] at hC
      generalize ePos s.dev dn = pos at *
      replace cFi := Lib.hid cFi
      clear he h hr hM h0 hv hlv cF hW0 hon
      go_enter Tryz.func47, Tryz.ntmps47
      go_wp2_with (go_at_call 74; (with_reducible refine (cFi.out _ hW0s.out).mono ?_); rintro e w2 ⟨rfl, hO2⟩; have hX2 := hW0s.out.trans hO2; obtain ⟨⟨c0, c1, c2, c3, c4, c5, c6, c7, c8, c9⟩, _⟩ := hC.out _ hX2; obtain ⟨r0, r1, r2, r3, r4, r5⟩ := hP.out _ hO2; replace hX2 := Lib.hid hX2; replace hO2 := Lib.hid hO2)
      go_ret
      exact ⟨rfl, hsame.out _ hX2.out⟩
    · rw [he]
      rw [hon] at hC
      have hpos : ePos s.dev dn = -1 := by unfold ePos; rw [if_neg (by simp [hh])]
      rw [hpos] at cFi
      obtain ⟨da, dc, hdv⟩ := h.dvs.sl
      rw [hdv] at hC
      replace cFi := Lib.hid cFi
      clear he h hr hM h0 hv hlv cF hW0 hon hpos hh
      go_enter Tryz.func47, Tryz.ntmps47
      go_wp2_with (go_at_call 74; (with_reducible refine (cFi.out _ hW0s.out).mono ?_); rintro e w2 ⟨rfl, hO2⟩; have hX2 := hW0s.out.trans hO2; obtain ⟨⟨c0, c1, c2, c3, c4, c5, c6, c7, c8, c9⟩, _⟩ := hC.out _ hX2; obtain ⟨r0, r1, r2, r3, r4, r5⟩ := hP.out _ hO2; replace hX2 := Lib.hid hX2; replace hO2 := Lib.hid hO2)
      go_ret
      exact ⟨rfl, hsame.out _ hX2.out⟩
    · have hpos : ePos s.dev dn = (rPos Dev.name s.dev dn : Nat) := by unfold ePos; rw [if_pos hh]
      have hil := (List.getElem?_eq_some_iff.1 hx).1
      obtain ⟨gb, cp, d, hdv, hd, hxd, hR0⟩ := yd_at h hil
      have hdd : d.x = x := by rw [hx] at hxd; cases hxd; rfl
      have hRc := Lib.hid fun W (ho : Own [] w W) => yd_cells (hR0.own ho (by simp)) hd
      rw [hdd] at hRc
      rw [hdv, hon] at hC
      rw [hpos] at cFi
      generalize rPos Dev.name s.dev dn = pos at *
      generalize s.dev.length = N at *
      have k1 : (pos : Int) < N := by omega
      have k0 : (0 : Int) ≤ pos := by omega
      have hn0 : decide ((pos : Int) < 0) = false := by simp
      replace cFi := Lib.hid cFi
      rcases hor with ⟨hxo, he⟩ | ⟨hxo, hft, he⟩
      · rw [he]
        rw [hxo] at hRc
        clear he h hr hM h0 hv hlv cF hW0 hon hpos hh hx hd hxd hR0 hdd hxo hdv
        go_enter Tryz.func47, Tryz.ntmps47
        go_wp2_with (go_at_call 74; (with_reducible refine (cFi.out _ hW0s.out).mono ?_); rintro e w2 ⟨rfl, hO2⟩; have hX2 := hW0s.out.trans hO2; obtain ⟨⟨c0, c1, c2, c3, c4, c5, c6, c7, c8, c9⟩, _⟩ := hC.out _ hX2; obtain ⟨⟨d0, d1, d2, d3⟩, _⟩ := hRc.out _ hX2; obtain ⟨r0, r1, r2, r3, r4, r5⟩ := hP.out _ hO2; replace hX2 := Lib.hid hX2; replace hO2 := Lib.hid hO2)
        go_ret
        exact ⟨rfl, hsame.out _ hX2.out⟩
      · rw [he]
        rw [hxo] at hRc
        rw [hft] at cF
        replace cF := Lib.hid cF
        clear he h hr hM h0 hv hlv hW0 hon hpos hh hx hd hxd hR0 hdd hxo hdv hft
        go_enter Tryz.func47, Tryz.ntmps47
        go_wp2_with (first
          | (go_at_call 74; (with_reducible refine (cFi.out _ hW0s.out).mono ?_); rintro e w2 ⟨rfl, hO2⟩; have hX2 := hW0s.out.trans hO2; obtain ⟨⟨c0, c1, c2, c3, c4, c5, c6, c7, c8, c9⟩, _⟩ := hC.out _ hX2; obtain ⟨⟨d0, d1, d2, d3⟩, _⟩ := hRc.out _ hX2; obtain ⟨r0, r1, r2, r3, r4, r5⟩ := hP.out _ hO2; replace hX2 := Lib.hid hX2; replace hO2 := Lib.hid hO2)
          | (go_at_call 71; (with_reducible refine (cF.out _ hX2.out).mono ?_); rintro e w3 ⟨rfl, hO3⟩; have hX3 := Lib.hid (hX2.out.trans hO3); clear hO3))
        go_ret
        exact ⟨rfl, hsame.out _ hX3.out⟩
end Go.Proofs.YtjfmbjgniajagaaGreatDoor

set_option linter.unusedSimpArgs false
set_option linter.unusedVariables false
namespace Go.Proofs.YtjfmbjgniajagaaGreatDoor
open Go.RowKit

def xDBirth (s : EN) (dn : ByteArray) (p : Pay) : Int × EN :=
  if s.online = false then (5, s) else if eFits s p = false then (4, s) else if dn.toList.isEmpty = true then (7, s)
  else if rHas Dev.name s.dev dn = false ∧ 4 ≤ s.dev.length then (8, s)
  else if (bornL p.M).1 ≠ 1 then ((bornL p.M).1, s)
  else if clashC (rTry s.al dn (bornL p.M).2) ≠ 1 then (clashC (rTry s.al dn (bornL p.M).2), s)
  else (1, { s with al := (rSet s.al dn (bornL p.M).2).2, dev := eDev s.dev dn (bornL p.M).2, want := (s.want + 1) % 256 })
def xTake (s : EN) (k : Int) (dn : ByteArray) (p : Pay) : Int × EN :=
  if k = 1 then ePend (xBirth s p) else if k = 2 then ePend (eDeath s p) else if k = 3 then ePend (xData s p) else if k = 5 then ePend (xDBirth s dn p)
  else if k = 6 then ePend (xDDeath s dn p) else if k = 7 then ePend (xDData s dn p) else (0, s)
/-- Both are the same, but for the order of their aliases. -/
def ELike (s x : EN) : Prop := ∃ R, x = { s with al := R } ∧ s.al.Perm R
theorem rSet_one (R : ATab) (ow : ByteArray) (L : List Itm) : (rSet R ow L).1 = rTry R ow L := by
  unfold rSet
  by_cases h : rTry R ow L = 0
  · rw [if_pos h, h]
  · rw [if_neg h]
def RLike (a b : Int × EN) : Prop := a.1 = b.1 ∧ ELike a.2 b.2
theorem RLike.of {c : Int} {s x : EN} (h : ELike s x) : RLike (c, s) (c, x) := ⟨rfl, h⟩
theorem RLike.pend {a b : Int × EN} (h : RLike a b) : RLike (ePend a) (ePend b) := by
  obtain ⟨h1, R, h2, h3⟩ := h
  unfold ePend
  rw [← h1]
  by_cases h4 : 3 ≤ a.1
  · rw [if_pos h4, if_pos h4]
    exact ⟨rfl, R, by rw [h2], h3⟩
  · rw [if_neg h4, if_neg h4]
    exact ⟨h1, R, h2, h3⟩
theorem like_birth {s x : EN} (h : ELike s x) (p : Pay) : RLike (eBirth s p) (xBirth x p) := by
  obtain ⟨h1, h2⟩ := set_like (List.Perm.refl []) noName (bornL p.M).2
  rw [rSet_one] at h1
  unfold eBirth xBirth
  rw [← h1]
  by_cases c1 : p.bd.2 = false
  · rw [if_pos c1, if_pos c1]; exact .of h
  rw [if_neg c1, if_neg c1]
  by_cases c2 : p.seq.2 = false
  · rw [if_pos c2, if_pos c2]; exact .of h
  rw [if_neg c2, if_neg c2]
  by_cases c3 : (bornL p.M).1 ≠ 1
  · rw [if_pos c3, if_pos c3]; exact .of h
  rw [if_neg c3, if_neg c3]
  by_cases c4 : clashC (aSet [] noName (bornL p.M).2).1 ≠ 1
  · rw [if_pos c4, if_pos c4]; exact .of h
  rw [if_neg c4, if_neg c4]
  exact ⟨rfl, _, rfl, h2⟩
theorem like_death {s x : EN} (h : ELike s x) (p : Pay) : RLike (eDeath s p) (eDeath x p) := by
  obtain ⟨R, rfl, hp⟩ := h
  have h' : ELike s { s with al := R } := ⟨R, rfl, hp⟩
  unfold eDeath
  by_cases c1 : p.bd.2 = false
  · rw [if_pos c1, if_pos c1]; exact .of h'
  rw [if_neg c1, if_neg c1]
  by_cases c2 : s.online = false ∨ p.bd.1 ≠ s.bd
  · rw [if_pos c2, if_pos c2]; exact .of h'
  rw [if_neg c2, if_neg c2]
  exact ⟨rfl, [], rfl, List.Perm.refl _⟩
theorem like_data {s x : EN} (h : ELike s x) (hn : (s.al.map (·.1)).Nodup) (p : Pay) (h0 : 0 ≤ p.s) : RLike (eData s p) (xData x p) := by
  obtain ⟨R, rfl, hp⟩ := h
  have h' : ELike s { s with al := R } := ⟨R, rfl, hp⟩
  have hf : rFind R noName = aFind s.al noName := funext fun a => (find_like hp hn noName a).symm
  unfold eData xData
  simp only [hf]
  by_cases c1 : s.online = false
  · rw [if_pos c1, if_pos c1]; exact .of h'
  rw [if_neg c1, if_neg c1]
  by_cases c2 : eFits s p = false
  · rw [if_pos c2, if_pos (show eFits { s with al := R } p = false from c2)]; exact .of h'
  have c2' : eFits s p = true := by simpa using c2
  obtain ⟨_, _, e1⟩ := fits_want h0 c2'
  rw [if_neg c2, if_neg (show ¬ eFits { s with al := R } p = false from c2)]
  by_cases c3 : (updGo (aFind s.al noName) p.M s.items).1 ≠ 1
  · rw [if_pos c3, if_pos c3]; exact .of h'
  rw [if_neg c3, if_neg c3, e1]
  exact ⟨rfl, R, rfl, hp⟩
theorem like_dbirth {s x : EN} (h : ELike s x) (dn : ByteArray) (p : Pay) (h0 : 0 ≤ p.s) : RLike (eDBirth s dn p) (xDBirth x dn p) := by
  obtain ⟨R, rfl, hp⟩ := h
  have h' : ELike s { s with al := R } := ⟨R, rfl, hp⟩
  have hm := (may_like hp dn (bornL p.M).2).1
  have hs := (set_like hp dn (bornL p.M).2).2
  unfold eDBirth xDBirth
  simp only [← hm]
  by_cases c1 : s.online = false
  · rw [if_pos c1, if_pos c1]; exact .of h'
  rw [if_neg c1, if_neg c1]
  by_cases c2 : eFits s p = false
  · rw [if_pos c2, if_pos (show eFits { s with al := R } p = false from c2)]; exact .of h'
  have c2' : eFits s p = true := by simpa using c2
  obtain ⟨_, _, e1⟩ := fits_want h0 c2'
  rw [if_neg c2, if_neg (show ¬ eFits { s with al := R } p = false from c2)]
  by_cases c3 : dn.toList.isEmpty = true
  · rw [if_pos c3, if_pos c3]; exact .of h'
  rw [if_neg c3, if_neg c3]
  by_cases c4 : rHas Dev.name s.dev dn = false ∧ 4 ≤ s.dev.length
  · rw [if_pos c4, if_pos c4]; exact .of h'
  rw [if_neg c4, if_neg c4]
  by_cases c5 : (bornL p.M).1 ≠ 1
  · rw [if_pos c5, if_pos c5]; exact .of h'
  rw [if_neg c5, if_neg c5]
  by_cases c6 : clashC (aMay s.al dn (bornL p.M).2).1 ≠ 1
  · rw [if_pos c6, if_pos c6]; exact .of h'
  rw [if_neg c6, if_neg c6, e1]
  exact ⟨rfl, _, rfl, hs⟩
theorem like_ddeath {s x : EN} (h : ELike s x) (dn : ByteArray) (p : Pay) (h0 : 0 ≤ p.s) : RLike (eDDeath s dn p) (xDDeath x dn p) := by
  obtain ⟨R, rfl, hp⟩ := h
  have h' : ELike s { s with al := R } := ⟨R, rfl, hp⟩
  have hl : eLive { s with al := R } dn p = eLive s dn p := rfl
  unfold eDDeath xDDeath
  rw [hl]
  by_cases c1 : eLive s dn p ≠ 1
  · rw [if_pos c1, if_pos c1]; exact .of h'
  rw [if_neg c1, if_neg c1]
  obtain ⟨_, _, ⟨x, hx, _, _⟩, hft⟩ := eLive_one (by simpa using c1)
  obtain ⟨_, _, e1⟩ := fits_want h0 hft
  simp only [hx, e1]
  exact ⟨rfl, _, rfl, others_like hp dn⟩
theorem like_ddata {s x : EN} (h : ELike s x) (hn : (s.al.map (·.1)).Nodup) (dn : ByteArray) (p : Pay) (h0 : 0 ≤ p.s) : RLike (eDData s dn p) (xDData x dn p) := by
  obtain ⟨R, rfl, hp⟩ := h
  have h' : ELike s { s with al := R } := ⟨R, rfl, hp⟩
  have hl : eLive { s with al := R } dn p = eLive s dn p := rfl
  have hf : rFind R dn = aFind s.al dn := funext fun a => (find_like hp hn dn a).symm
  unfold eDData xDData
  rw [hl]
  simp only [hf]
  by_cases c1 : eLive s dn p ≠ 1
  · rw [if_pos c1, if_pos c1]; exact .of h'
  rw [if_neg c1, if_neg c1]
  obtain ⟨_, _, ⟨x, hx, _, _⟩, hft⟩ := eLive_one (by simpa using c1)
  obtain ⟨_, _, e1⟩ := fits_want h0 hft
  simp only [hx]
  by_cases c2 : (updGo (aFind s.al dn) p.M x.items).1 ≠ 1
  · rw [if_pos c2, if_pos c2]; exact .of h'
  rw [if_neg c2, if_neg c2, e1]
  exact ⟨rfl, R, rfl, hp⟩
theorem like_take {s x : EN} (h : ELike s x) (hn : (s.al.map (·.1)).Nodup) (k : Int) (dn : ByteArray) (p : Pay) (h0 : 0 ≤ p.s) : RLike (eTake s k dn p) (xTake x k dn p) := by
  unfold eTake xTake
  by_cases k1 : k = 1
  · rw [if_pos k1, if_pos k1]; exact (like_birth h p).pend
  rw [if_neg k1, if_neg k1]
  by_cases k2 : k = 2
  · rw [if_pos k2, if_pos k2]; exact (like_death h p).pend
  rw [if_neg k2, if_neg k2]
  by_cases k3 : k = 3
  · rw [if_pos k3, if_pos k3]; exact (like_data h hn p h0).pend
  rw [if_neg k3, if_neg k3]
  by_cases k5 : k = 5
  · rw [if_pos k5, if_pos k5]; exact (like_dbirth h dn p h0).pend
  rw [if_neg k5, if_neg k5]
  by_cases k6 : k = 6
  · rw [if_pos k6, if_pos k6]; exact (like_ddeath h dn p h0).pend
  rw [if_neg k6, if_neg k6]
  by_cases k7 : k = 7
  · rw [if_pos k7, if_pos k7]; exact (like_ddata h hn dn p h0).pend
  rw [if_neg k7, if_neg k7]
  exact .of h
end Go.Proofs.YtjfmbjgniajagaaGreatDoor

set_option linter.unusedSimpArgs false
set_option linter.unusedVariables false
namespace Go.Proofs.YtjfmbjgniajagaaGreatDoor
open Go.RowKit

/-- One device more, not yet born. -/
theorem YAt.newD {w w' : World} {n : Nat} {g nm : ByteArray} {Y : YW} {s : EN} (h : YAt w n g nm Y s) (ho : Own [] w w') {K : Nat} {dn : ByteArray} {v' : Value} (hS : Sl 91 ydEnc 4 w.heap.size w' v' (Y.ds.take K ++ [(⟨⟨dn, false, []⟩, none, 0, 0⟩ : YD)] ++ Y.ds.drop K)) (hl : s.dev.length ≤ 3) (hK : K ≤ s.dev.length) :
    YAt (w'.setCell ⟨n, 9, none⟩ v') n g nm { Y with dv := v', ds := Y.ds.take K ++ [(⟨⟨dn, false, []⟩, none, 0, 0⟩ : YD)] ++ Y.ds.drop K } { s with dev := s.dev.take K ++ [(⟨dn, false, []⟩ : Dev)] ++ s.dev.drop K } ∧
      YLeft n Y w (w'.setCell ⟨n, 9, none⟩ v') { Y with dv := v', ds := Y.ds.take K ++ [(⟨⟨dn, false, []⟩, none, 0, 0⟩ : YD)] ++ Y.ds.drop K } := by
  obtain ⟨hA1, hA2⟩ := h.apart
  have hA1' := hA1
  unfold YW.feet at hA1'
  simp only [List.nodup_cons, List.mem_cons, not_or] at hA1'
  obtain ⟨⟨a1, a2⟩, a3, a4⟩ := hA1'
  have hn : n ∈ Y.feet n := by unfold YW.feet; simp
  have hnl : n < w.heap.size := h.flt n hn
  have habl : Y.ab < w.heap.size := h.flt _ (by unfold YW.feet; simp)
  have hO2 : Own [n] w' (w'.setCell ⟨n, 9, none⟩ v') := (Own.refl _ _).setCell (by simp) _
  have h2 := h.nil' ho
  have hne : ∀ x ∈ Y.held, x ∉ [n] := fun x hx => by simp; rintro rfl; exact hA2 _ hx hn
  have hvb : ∀ b, v'.ownBlock = some b → w.heap.size ≤ b := fun b hb => (hS.block hb).1
  have hheld : ∀ x ∈ ({ Y with dv := v', ds := Y.ds.take K ++ [(⟨⟨dn, false, []⟩, none, 0, 0⟩ : YD)] ++ Y.ds.drop K } : YW).held, x ∈ Y.held := fun x hx => by
    unfold YW.held at hx
    simp only [List.mem_append, List.mem_flatMap] at hx
    rcases hx with h1 | h1 | ⟨d, hd, h1⟩
    · unfold YW.held; simp [h1]
    · unfold YW.held; simp [h1]
    · rcases hd with (hd | hd) | hd
      · exact YW.held_d (List.mem_of_mem_take hd) (mem_blkOf h1)
      · simp at hd; subst hd; simp [blkOf] at h1
      · exact YW.held_d (List.mem_of_mem_drop hd) (mem_blkOf h1)
  have hfeet : ∀ x ∈ ({ Y with dv := v', ds := Y.ds.take K ++ [(⟨⟨dn, false, []⟩, none, 0, 0⟩ : YD)] ++ Y.ds.drop K } : YW).feet n, x = n ∨ x = Y.ab ∨ v'.ownBlock = some x := fun x hx => by
    unfold YW.feet at hx
    simp only [List.mem_cons] at hx
    rcases hx with h1 | h1 | h1
    · exact .inl h1
    · exact .inr (.inl h1)
    · exact .inr (.inr (Option.mem_toList.1 h1))
  refine ⟨⟨heap_setCell_same _ _ _ _ _ _ h2.row, h2.tab.own' hO2 (by simp; exact fun e => a1 e.symm) (fun b hb => hne b (YW.held_av hb)), h2.itm.own hO2 (fun b hb => hne b (YW.held_ia hb)), (hS.mono (Nat.zero_le _)).own hO2 (fun b hb => by have := hvb b hb; simp; omega), ?_, fun d hd => ?_, ⟨?_, fun x hx hf => ?_⟩, fun x hx => ?_, ⟨⟨h.few.1.1, h.few.1.2.1, ?_⟩, fun x hx => ?_⟩⟩, ho.nil.trans (hO2.mono (fun x hx => by simp at hx; subst hx; exact hn)), fun x hx => ?_, fun x hx => .inl (hheld x hx)⟩
  · show (Y.ds.take K ++ [(⟨⟨dn, false, []⟩, none, 0, 0⟩ : YD)] ++ Y.ds.drop K).map YD.x = _
    rw [List.map_append, List.map_append, List.map_take, List.map_drop, h.dev]
    rfl
  · simp only [List.mem_append] at hd
    rcases hd with (hd | hd) | hd
    · exact (h2.itd d (List.mem_of_mem_take hd)).own hO2 (fun b hb => hne b (YW.held_d (List.mem_of_mem_take hd) hb))
    · simp at hd; subst hd; exact RowsAt.empty _ _
    · exact (h2.itd d (List.mem_of_mem_drop hd)).own hO2 (fun b hb => hne b (YW.held_d (List.mem_of_mem_drop hd) hb))
  · unfold YW.feet
    simp only [List.nodup_cons, List.mem_cons, not_or]
    refine ⟨⟨a1, fun hm => ?_⟩, fun hm => ?_, ?_⟩
    · have := hvb _ (Option.mem_toList.1 hm); omega
    · have := hvb _ (Option.mem_toList.1 hm); omega
    · cases v'.ownBlock <;> simp
  · have hx' := hheld x hx
    rcases hfeet x hf with h3 | h3 | h3
    · exact hA2 x hx' (h3 ▸ hn)
    · exact hA2 x hx' (by rw [h3]; unfold YW.feet; simp)
    · have := hvb x h3; have := h.lt x hx'; omega
  · exact Nat.lt_of_lt_of_le (h.lt x (hheld x hx)) (Nat.le_trans ho.size hO2.size)
  · simp [List.length_take]; omega
  · simp only [List.mem_append] at hx
    rcases hx with (hx | hx) | hx
    · exact h.few.2 x (List.mem_of_mem_take hx)
    · simp at hx; subst hx; simp
    · exact h.few.2 x (List.mem_of_mem_drop hx)
  · rcases hfeet x hx with h3 | h3 | h3
    · exact .inl (h3 ▸ hn)
    · exact .inl (by rw [h3]; unfold YW.feet; simp)
    · exact .inr (hvb x h3)
/-- The aliases of the new one. -/
theorem yset_ins {w w5 wc : World} {n : Nat} {g nm : ByteArray} {Y : YW} {s : EN} (h : YAt w n g nm Y s) (hX5 : Own [] w w5) (hO : Own [] w5 wc) {K : Nat} {dn : ByteArray} {gb capc : Nat} (hS : Sl 91 ydEnc 4 w5.heap.size wc (.slice (some ⟨gb, 0, none⟩) (s.dev.length + 1) capc) (Y.ds.take K ++ [(⟨⟨dn, false, []⟩, none, 0, 0⟩ : YD)] ++ Y.ds.drop K)) (hl : s.dev.length ≤ 3) (hK : K ≤ s.dev.length)
    (a : Option Addr) (l : List Itm) (c : Nat) (hA : ItemsAt wc a l) (haf : ∀ b, a.map (·.block) = some b → w.heap.size ≤ b ∧ b < w5.heap.size) (hz : rTry s.al dn l = 0) :
    Calls Tryz.prog 70 #[.pointer (some ⟨Y.ab, 0, none⟩), .string dn, .slice a l.length c] (wc.setCell ⟨n, 9, none⟩ (.slice (some ⟨gb, 0, none⟩) (s.dev.length + 1) capc)) fun e w' => (∃ c, e = .returned (.int .i64 c)) ∧
      ∃ Y', YAt w' n g nm Y' { s with dev := s.dev.take K ++ [(⟨dn, false, []⟩ : Dev)] ++ s.dev.drop K, al := (rSet s.al dn l).2 } ∧ YLeft n Y w w' Y' ∧ Y'.dv = .slice (some ⟨gb, 0, none⟩) (s.dev.length + 1) capc ∧ ItemsAt w' a l ∧ (∀ b, a.map (·.block) = some b → b ∉ Y'.feet n) ∧ w'.cell? ⟨n, 9, none⟩ = some (.slice (some ⟨gb, 0, none⟩) (s.dev.length + 1) capc) := by
  obtain ⟨hE, hL⟩ := (h.nil' hX5).newD (K := K) (dn := dn) hO hS hl hK
  have hnl : n < w.heap.size := lt_of_heap h.row
  have hno : ∀ b, a.map (·.block) = some b → b ∉ ({ Y with dv := .slice (some ⟨gb, 0, none⟩) (s.dev.length + 1) capc, ds := Y.ds.take K ++ [(⟨⟨dn, false, []⟩, none, 0, 0⟩ : YD)] ++ Y.ds.drop K } : YW).feet n := fun b hb hx => by
    rcases hL.2.1 b hx with h1 | h1
    · exact absurd (h.flt b h1) (Nat.not_lt.2 (haf b hb).1)
    · have := (haf b hb).2; omega
  refine (yset_tab hE dn a l c (hA.own ((Own.refl [n] _).setCell (by simp) _) (fun b hb => by have := (haf b hb).1; simp; omega)) hno hz).mono ?_
  rintro e w' ⟨hc, Y7, hE7, hL7, hdv7, _, hA7⟩
  obtain ⟨⟨_, _, _, _, _, _, _, _, _, z9⟩, _⟩ := ycells hE7 w' (Own.refl _ _)
  rw [hdv7] at z9
  refine ⟨hc, Y7, hE7, (YLeft.nil hX5).trans (hL.trans hL7), hdv7, hA7, fun b hb hx => ?_, z9⟩
  rcases hL7.2.1 b hx with h1 | h1
  · exact hno b hb h1
  · have h3 := (haf b hb).2
    have h4 := hL.1.size
    omega
theorem ins_at {α : Type} (l : List α) (K : Nat) (x : α) (hK : K ≤ l.length) : (l.take K ++ [x] ++ l.drop K)[K]? = some x ∧ (l.take K ++ [x] ++ l.drop K).length = l.length + 1 := by
  have e : (l.take K).length = K := by rw [List.length_take]; omega
  refine ⟨?_, by simp; omega⟩
  rw [List.append_assoc, List.getElem?_append_right (by omega), e, Nat.sub_self]; rfl
set_option maxRecDepth 100000 in
set_option maxHeartbeats 16000000 in
theorem ydbirth_any (n : Nat) (g nm : ByteArray) (Y : YW) (s : EN) (dn : ByteArray) (p : Pay) (w : World) (h : YAt w n g nm Y s) (hr : Rises Dev.name s.dev) (hM : MetsAt w p.a p.M) (h0 : 0 ≤ p.s) :
    Calls Tryz.prog 46 #[.pointer (some ⟨n, 0, none⟩), .string dn, p.val] w (YPost n g nm Y (xDBirth s dn p) w) := by
  have hW0 := pbox_own w p
  have hP := fun W (ho : Own [] (pbox w p) W) => pbox_cells w p (S := []) (by simp) W ho
  have hC := fun W (ho : Own [] w W) => ycells h W ho
  have hsame := Lib.hid fun W (ho : Own [] w W) => h.same ho
  have cFi := fun W (ho : Own [] w W) => yfind_any n g nm Y s dn W (h.nil' ho) hr
  have cF := fun W (ho : Own [] w W) => yfits_any n g nm Y s p W (h.nil' ho) h0
  have cO := fun W (ho : Own [] w W) => rborn_any p.a p.M p.c W (hM.nil' ho)
  have hbl := Lib.hid (bornL_le p.M)
  have hcode := fun a cap W (ho : Own [] w W) (hA : ItemsAt W a (bornL p.M).2) => ycode_any n Y.ab Y.av s.al dn a (bornL p.M).2 cap W (hC W ho).1.2.2.2.2.2.2.2.2.1 (h.nil' ho).tab h.few.1.2.1 hA
  have hset := fun W (Y' : YW) (s' : EN) a cap (hk : YAt W n g nm Y' s') (hal : s'.al = s.al) (hz : rTry s.al dn (bornL p.M).2 = 0) (hA : ItemsAt W a (bornL p.M).2) (ha : ∀ b, a.map (·.block) = some b → b ∉ Y'.feet n) => yset_tab hk dn a (bornL p.M).2 cap hA ha (by rw [hal]; exact hz)
  have hborn := fun W (Y' : YW) (s' : EN) (i : Nat) a cap (x : Dev) gb cp (hk : YAt W n g nm Y' s') (hx : s'.dev[i]? = some x) (hdv : Y'.dv = .slice (some ⟨gb, 0, none⟩) s'.dev.length cp) (hA : ItemsAt W a (bornL p.M).2) (ha : ∀ b, a.map (·.block) = some b → b ∉ Y'.feet n) => yborn_d hk hx hdv a (bornL p.M).2 cap hA ha (bornL_le p.M)
  have hC2 := Lib.hid fun W Y' s' (hk : YAt W n g nm Y' s') => ycells hk W (Own.refl _ _)
  have cK := Lib.hid fun W Y' (s' : EN) (hk : YAt W n g nm Y' s') (q0 : 0 ≤ s'.want) (q1 : s'.want < 256) => ytook_one hk q0 q1
  have hv : p.val = .agg #[.int .u64 p.t, .bool p.h, .int .u64 p.s, .string p.u, .string p.b, .slice p.a p.M.length p.c] := rfl
  obtain ⟨da, dc, hdv⟩ := h.dvs.sl
  have hlen : Y.ds.length = s.dev.length := by rw [← h.dev]; simp
  rw [hlen] at hdv
  have hl4 := h.few.1.2.2
  unfold Born2Post at cO
  unfold YPost xDBirth
  rw [hv] at cF ⊢
  simp only [pbox] at hW0 hP
  rw [hdv] at hC
  obtain ⟨⟨k0, k1, k2, k3, k4, k5, k6, k7, k8, k9⟩, _⟩ := hC _ hW0
  obtain ⟨p0, p1, p2, p3, p4, p5⟩ := hP _ (Own.refl _ _)
  have hW0s := Lib.hid hW0
  replace hP := Lib.hid hP
  replace cO := Lib.hid cO
  cases hon : s.online with
  | false =>
    rw [if_pos rfl]
    rw [hon] at k2
    clear cF cFi hcode hset hborn hC hM h0 h hr hv hdv hon hlen hl4 hW0
    go_enter Tryz.func46, Tryz.ntmps46
    go_wp2_with fail
    go_ret
    exact ⟨rfl, hsame.out _ hW0s.out⟩
  | true =>
    rw [if_neg (by simp)]
    rw [hon] at k2 hC
    replace hC := Lib.hid hC
    cases hft : eFits s p with
    | false =>
      rw [if_pos rfl]
      rw [hft] at cF
      replace cF := Lib.hid cF
      clear cFi hcode hset hborn hM h0 h hr hv hdv hon hlen hl4 hW0 hft
      go_enter Tryz.func46, Tryz.ntmps46
      go_wp2_with (go_at_call 71; (with_reducible refine (cF.out _ hW0s.out).mono ?_); rintro e w2 ⟨rfl, hO2⟩; have hX2 := hW0s.out.trans hO2; obtain ⟨⟨c0, c1, c2, c3, c4, c5, c6, c7, c8, c9⟩, _⟩ := hC.out _ hX2; obtain ⟨r0, r1, r2, r3, r4, r5⟩ := hP.out _ hO2; replace hX2 := Lib.hid hX2; replace hO2 := Lib.hid hO2)
      go_ret
      exact ⟨rfl, hsame.out _ hX2.out⟩
    | true =>
      rw [if_neg (by simp)]
      rw [hft] at cF
      replace cF := Lib.hid cF
      obtain ⟨hw0, hw1, _⟩ := fits_want h0 hft
      have hw := Lib.hid (And.intro hw0 hw1)
      cases hdn : dn.toList.isEmpty with
      | true =>
        rw [if_pos rfl]
        have hdn3 : (dn.toList == []) = true := by rw [show dn.toList = [] by simpa using hdn]; rfl
        clear cFi hcode hset hborn hM h0 h hr hv hdv hon hlen hl4 hW0 hft hw0 hw1 hdn
        go_enter Tryz.func46, Tryz.ntmps46
        go_wp2_with (go_at_call 71; (with_reducible refine (cF.out _ hW0s.out).mono ?_); rintro e w2 ⟨rfl, hO2⟩; have hX2 := hW0s.out.trans hO2; obtain ⟨⟨c0, c1, c2, c3, c4, c5, c6, c7, c8, c9⟩, _⟩ := hC.out _ hX2; obtain ⟨r0, r1, r2, r3, r4, r5⟩ := hP.out _ hO2; replace hX2 := Lib.hid hX2; replace hO2 := Lib.hid hO2)
        go_ret
        exact ⟨rfl, hsame.out _ hX2.out⟩
      | false =>
        rw [if_neg (by simp)]
        have hdn3 : (dn.toList == []) = false := by cases hq : dn.toList with | nil => rw [hq] at hdn; cases hdn | cons => rfl
        have hon2 := Lib.hid hon
        cases hh : rHas Dev.name s.dev dn with
        | false =>
          have hpos : ePos s.dev dn = -1 := by unfold ePos; rw [if_neg (by simp [hh])]
          rw [hpos] at cFi
          replace cFi := Lib.hid cFi
          by_cases h4 : 4 ≤ s.dev.length
          · rw [if_pos ⟨rfl, h4⟩]
            have h6 : (4 : Int) ≤ (s.dev.length : Int) := by omega
            generalize s.dev.length = N at *
            clear hcode hset hborn hM h0 h hr hv hdv hon hlen hl4 hW0 hft hw0 hw1 hdn hpos hh h4
            go_enter Tryz.func46, Tryz.ntmps46
            go_wp2_with (first
              | (go_at_call 71; (with_reducible refine (cF.out _ hW0s.out).mono ?_); rintro e w2 ⟨rfl, hO2⟩; have hX2 := hW0s.out.trans hO2; obtain ⟨⟨c0, c1, c2, c3, c4, c5, c6, c7, c8, c9⟩, _⟩ := hC.out _ hX2; obtain ⟨r0, r1, r2, r3, r4, r5⟩ := hP.out _ hO2; replace hX2 := Lib.hid hX2; replace hO2 := Lib.hid hO2)
              | (go_at_call 74; (with_reducible refine (cFi.out _ hX2.out).mono ?_); rintro e w3 ⟨rfl, hO3⟩; have hX3 := hX2.out.trans hO3; have hO23 := hO2.out.trans hO3; obtain ⟨⟨e0, e1, e2, e3, e4, e5, e6, e7, e8, e9⟩, _⟩ := hC.out _ hX3; obtain ⟨t0, t1, t2, t3, t4, t5⟩ := hP.out _ hO23; replace hX3 := Lib.hid hX3; clear hO3 hO23))
            go_ret
            exact ⟨rfl, hsame.out _ hX3.out⟩
          · rw [if_neg (fun h => h4 h.2)]
            have h6 : decide ((4 : Int) ≤ (s.dev.length : Int)) = false := by simp; omega
            have h6' : ¬ (4 : Int) ≤ (s.dev.length : Int) := by omega
            have hmk : ∀ l, eDev s.dev dn l = s.dev.take (rPos Dev.name s.dev dn) ++ [(⟨dn, true, l⟩ : Dev)] ++ s.dev.drop (rPos Dev.name s.dev dn) := fun l => by unfold eDev; rw [if_neg (by simp [hh])]
            rw [hmk]
            have hK := rPos_le (key := Dev.name) s.dev dn
            have hless : ∀ k x, s.dev[k]? = some x → (sless x.name dn = true ↔ k < rPos Dev.name s.dev dn) := fun k x hk => rPos_iff hr hk
            have hD := Lib.hid fun W k (ho : Own [] w W) (hk : k < s.dev.length) => yd_at (h.nil' ho) hk
            obtain ⟨v1, hs1, hr1, _⟩ := h.dvs.take ydElem (i := rPos Dev.name s.dev dn) (by omega)
            obtain ⟨v2, hs2, hr2, _⟩ := h.dvs.drop ydElem (i := rPos Dev.name s.dev dn) (by omega)
            rw [hdv] at hs1 hs2
            obtain ⟨hin1, hin2⟩ := ins_at s.dev (rPos Dev.name s.dev dn) (⟨dn, false, []⟩ : Dev) hK
            have hts := fun (l : List Itm) => take_set_ins s.dev (rPos Dev.name s.dev dn) (⟨dn, false, []⟩ : Dev) ⟨dn, true, l⟩ hK
            have hlt0 : (Y.ds.take (rPos Dev.name s.dev dn)).length ≤ 4 := by simp; omega
            have hld0 : (Y.ds.drop (rPos Dev.name s.dev dn)).length ≤ 4 := by simp; omega
            have hflt := Lib.hid h.flt
            have hlD : (Y.ds.take (rPos Dev.name s.dev dn) ++ [(⟨⟨dn, false, []⟩, none, 0, 0⟩ : YD)] ++ Y.ds.drop (rPos Dev.name s.dev dn)).length = s.dev.length + 1 := by rw [(ins_at Y.ds _ _ (by omega)).2, hlen]
            have hins := Lib.hid fun W5 (hoW : Own [] w W5) wc (ho : Own [] W5 wc) gb capc hS a cap (hA : ItemsAt wc a (bornL p.M).2) haf hz => yset_ins (K := rPos Dev.name s.dev dn) (dn := dn) (gb := gb) (capc := capc) h hoW ho hS (by omega) hK a (bornL p.M).2 cap hA haf hz
            clear hset
            replace hborn := fun W Y' a cap gb cp hk (hdv' : Y'.dv = .slice (some ⟨gb, 0, none⟩) (s.dev.length + 1) cp) hA ha => hborn W Y' { s with dev := s.dev.take (rPos Dev.name s.dev dn) ++ [(⟨dn, false, []⟩ : Dev)] ++ s.dev.drop (rPos Dev.name s.dev dn), al := (rSet s.al dn (bornL p.M).2).2 } (rPos Dev.name s.dev dn) a cap ⟨dn, false, []⟩ gb cp hk hin1 (by rw [hdv']; show _ = Value.slice _ (List.length _) _; rw [hin2]) hA ha
            simp only [hts] at hborn
            have hnn : ∀ k, (hk : k < s.dev.length) → (k < rPos Dev.name s.dev dn → Op.bytesLess (s.dev[k]).name.toList dn.toList = true) ∧ (k = rPos Dev.name s.dev dn → Op.bytesLess (s.dev[k]).name.toList dn.toList = false) := fun k hk =>
              ⟨fun h1 => (hless k _ (List.getElem?_eq_getElem hk)).2 h1, fun h1 => by
                cases hb : Op.bytesLess (s.dev[k]).name.toList dn.toList with
                | false => rfl
                | true => have := (hless k _ (List.getElem?_eq_getElem hk)).1 hb; omega⟩
            generalize bornL p.M = bo at *
            obtain ⟨bo1, bo2⟩ := bo
            generalize rPos Dev.name s.dev dn = pos at *
            simp only at *
            replace hcode := Lib.hid hcode
            replace hborn := Lib.hid hborn
            replace hs1 := Lib.hid hs1
            replace hs2 := Lib.hid hs2
            replace hr1 := Lib.hid hr1
            replace hr2 := Lib.hid hr2
            replace hnn := Lib.hid hnn
            replace hlD := Lib.hid hlD
            have h00 : decide ((-1 : Int) < 0) = true := rfl
            clear hM h0 h hr hv hon hW0 hft hw0 hw1 hdn hpos hh hmk hless hin1 hin2 hts hlen h4
            by_cases hb1 : bo1 = 1
            · subst hb1
              rw [if_neg (by simp)]
              by_cases hc1 : clashC (rTry s.al dn bo2) = 1
              · rw [if_neg (by simpa using hc1)]
                have hc2 : (clashC (rTry s.al dn bo2) != 1) = false := by simpa using hc1
                have hz := Lib.hid (rSet_code hc1)
                clear hc1
                go_enter Tryz.func46, Tryz.ntmps46
                go_wp2_with (first
                  | (go_at_call 71; (with_reducible refine (cF.out _ hW0s.out).mono ?_); rintro e w2 ⟨rfl, hO2⟩; have hX2 := hW0s.out.trans hO2; obtain ⟨⟨c0, c1, c2, c3, c4, c5, c6, c7, c8, c9⟩, _⟩ := hC.out _ hX2; obtain ⟨r0, r1, r2, r3, r4, r5⟩ := hP.out _ hO2; replace hX2 := Lib.hid hX2; replace hO2 := Lib.hid hO2)
                  | (go_at_call 74; (with_reducible refine (cFi.out _ hX2.out).mono ?_); rintro e w3 ⟨rfl, hO3⟩; have hX3 := hX2.out.trans hO3; have hO23 := hO2.out.trans hO3; obtain ⟨⟨e0, e1, e2, e3, e4, e5, e6, e7, e8, e9⟩, _⟩ := hC.out _ hX3; obtain ⟨t0, t1, t2, t3, t4, t5⟩ := hP.out _ hO23; replace hX3 := Lib.hid hX3; clear hO3 hO23)
                  | (go_at_call 68; (with_reducible refine (cO.out _ hX3.out).mono ?_); rintro e w4 ⟨a, cap, rfl, hR4, hO4⟩; have hX4 := hX3.out.trans hO4; have hA4 := (hR4.at_ (by have := hbl.out; omega) : ItemsAt w4 a bo2); have haf := (fun b hb => ⟨Nat.le_trans hX3.out.size (fresh_ge hR4 b hb).1, (fresh_ge hR4 b hb).2⟩ : ∀ b, a.map (·.block) = some b → w.heap.size ≤ b ∧ b < w4.heap.size); obtain ⟨⟨g0, g1, g2, g3, g4, g5, g6, g7, g8, g9⟩, _⟩ := hC.out _ hX4; replace hX4 := Lib.hid hX4; replace hA4 := Lib.hid hA4; replace haf := Lib.hid haf; clear hR4 hO4)
                  | (go_at_call 69; (with_reducible refine (hcode.out a cap _ hX4.out hA4.out).mono ?_); rintro e w5 ⟨rfl, hO5⟩; have hX5 := hX4.out.trans hO5; have hA5 := Lib.hid (hA4.out.nil' hO5); have hs5 := hO5.size; obtain ⟨⟨i0, i1, i2, i3, i4, i5, i6, i7, i8, i9⟩, _⟩ := hC.out _ hX5; replace hX5 := Lib.hid hX5; clear hO5))
                go_loopg [7] pos (fun m s7 wr => ∃ k : Nat, k ≤ pos ∧ m = pos - k ∧ s7 = .int .i64 k ∧ Aside (Own [] w5 wr))
                case atStart => exact ⟨0, Nat.zero_le _, rfl, rfl, Own.refl _ _⟩
                case round =>
                  obtain ⟨k, hk, rfl, rfl, hO⟩ := hrel
                  obtain ⟨⟨_, _, _, _, _, _, _, _, _, j9⟩, _⟩ := hC.out _ (hX5.out.trans hO)
                  have kk0 : (0 : Int) ≤ k := by omega
                  by_cases hkp : k < pos
                  · have hkl : k < s.dev.length := by omega
                    have hkl' : (k : Int) < (s.dev.length : Int) := by omega
                    obtain ⟨gb, cp, d, e1, hd, hx, hR⟩ := hD.out _ k (hX5.out.trans hO) hkl
                    rw [hdv] at e1
                    cases e1
                    obtain ⟨⟨d0, d1, d2, d3⟩, _⟩ := yd_cells hR hd
                    have hbl1 := (hnn.out k hkl).1 hkp
                    rw [show s.dev[k] = d.x from Option.some.inj ((List.getElem?_eq_getElem hkl).symm.trans hx)] at hbl1
                    generalize d.x = y at *
                    replace hO := Lib.hid hO
                    clear hR hx hd
                    go_wp2_with fail
                    go_roundg (pos - (k + 1))
                    case measure => omega
                    case rel => exact ⟨k + 1, by omega, rfl, by go_num, hO.out⟩
                  · obtain rfl : k = pos := by omega
                    have hor : (∃ gb y, da = some ⟨gb, 0, none⟩ ∧ k < s.dev.length ∧ wr.cell? ⟨gb, k * 4, none⟩ = some (.string y) ∧ Op.bytesLess y.toList dn.toList = false) ∨ ¬ k < s.dev.length := by
                      by_cases hkl : k < s.dev.length
                      · obtain ⟨gb, cp, d, e1, hd, hx, hR⟩ := hD.out _ k (hX5.out.trans hO) hkl
                        rw [hdv] at e1
                        cases e1
                        obtain ⟨⟨d0, d1, d2, d3⟩, _⟩ := yd_cells hR hd
                        have hbl1 := (hnn.out k hkl).2 rfl
                        rw [show s.dev[k] = d.x from Option.some.inj ((List.getElem?_eq_getElem hkl).symm.trans hx)] at hbl1
                        exact .inl ⟨gb, _, rfl, hkl, d0, hbl1⟩
                      · exact .inr hkl
                    have hOe := hO.alloc (.cells #[] 91)
                    have hsl := (Sl.empty (enc := ydEnc) (k := 4) 91 wr).mono (base' := w5.heap.size) hO.size
                    have hr1' := hr1.out.nil' (hX5.out.trans hOe)
                    obtain ⟨⟨_, _, _, _, _, _, _, _, _, m9⟩, _⟩ := hC.out _ (hX5.out.trans hOe)
                    replace hOe := Lib.hid hOe
                    replace hsl := Lib.hid hsl
                    replace hr1' := Lib.hid hr1'
                    replace hO := Lib.hid hO
                    have q1 : (k : Int) < ((s.dev.length + 1 : Nat) : Int) := by omega
                    clear k0 k1 k2 k3 k4 k5 k6 k7 k8 k9 c0 c1 c2 c3 c4 c5 c6 c7 c8 c9 e0 e1 e2 e3 e4 e5 e6 e7 e8 e9 g0 g1 g2 g3 g4 g5 g6 g7 g8 g9 i0 i1 i2 i3 i4 i5 i6 i7 i8 i9 p0 p1 p2 p3 p4 p5 r0 r1 r2 r3 r4 r5 t0 t1 t2 t3 t4 t5
                    rcases hor with ⟨gb0, y0, rfl, hkl, hy0, hy1⟩ | hkl
                    all_goals
                      go_wp2_with (first
                        | (refine wpList_slice_of (o := ⟨some 81, _, _, _, _, _⟩) rfl _ _ _ _ _ rfl rfl rfl rfl rfl hs1.out ?_)
                        | (at_builtin; refine wpList_append_new2 rfl (.tmp 75) (.tmp 81) rfl ydElem hOe.out rfl hsl.out rfl hr1'.out (by simp only [List.length_nil]; omega) (by unfold maxLen; simp only [List.length_nil]; omega) ?_; intro va wa hSa hOa _ _ _; obtain ⟨⟨_, _, _, _, _, _, _, _, _, a9⟩, _⟩ := hC.out _ (hX5.out.trans hOa); have hOb := hOa.alloc (.cells #[.string dn, .bool false, .slice none 0 0, .int .i64 0] 91); have hSb := hSa.nil' ((Own.refl [] wa).alloc (.cells #[.string dn, .bool false, .slice none 0 0, .int .i64 0] 91)); have hRb : Reads ydEnc (wa.alloc (.cells #[.string dn, .bool false, .slice none 0 0, .int .i64 0] 91)) (.slice (some ⟨wa.heap.size, 0, none⟩) 1 1) [(⟨⟨dn, false, []⟩, none, 0, 0⟩ : YD)] := Reads.new wa _ 1; replace hOb := Lib.hid hOb; replace hSb := Lib.hid hSb; replace hRb := Lib.hid hRb; clear hSa hOa)
                        | (at_builtin; refine wpList_append_new rfl (.tmp 83) (.tmp 87) rfl ydElem hOb.out rfl hSb.out rfl hRb.out (by simp only [List.length_append, List.length_nil, List.length_singleton]; omega) (by unfold maxLen; simp only [List.length_append, List.length_nil, List.length_singleton]; omega) ?_; intro vb wb hSc hOc _ _; obtain ⟨⟨_, _, _, _, _, _, _, _, _, b9⟩, _⟩ := hC.out _ (hX5.out.trans hOc); have hr2' := Lib.hid (hr2.out.nil' (hX5.out.trans hOc)); replace hSc := Lib.hid hSc; replace hOc := Lib.hid hOc)
                        | (refine wpList_slice_of (o := ⟨some 95, _, _, _, _, _⟩) rfl _ _ _ _ _ rfl rfl rfl rfl rfl hs2.out ?_)
                        | (at_builtin; refine wpList_append_new rfl (.tmp 89) (.tmp 95) rfl ydElem hOc.out rfl hSc.out rfl hr2'.out (by simp only [List.length_append, List.length_nil, List.length_singleton]; omega) (by unfold maxLen; simp only [List.length_append, List.length_nil, List.length_singleton]; omega) ?_; intro vc wc hSd hOd _ _; rw [List.nil_append] at hSd; obtain ⟨gb, capc, hvc⟩ : ∃ gb cp, vc = .slice (some ⟨gb, 0, none⟩) (s.dev.length + 1) cp := (by rcases hSd.form with ⟨_, h2⟩ | ⟨gb, cp, h2, _, _⟩; exact absurd (congrArg List.length h2) (by rw [hlD.out]; simp); exact ⟨gb, cp, by rw [h2, hlD.out]⟩); subst hvc; obtain ⟨⟨_, _, _, _, _, _, _, _, n8, n9⟩, nf⟩ := hC.out _ (hX5.out.trans hOd); have nf9 := nf 9; have cS8 := Lib.hid (hins.out _ hX5.out wc hOd gb capc hSd a cap (hA5.out.nil' hOd) (fun b hb => ⟨(haf.out b hb).1, Nat.lt_of_lt_of_le (haf.out b hb).2 hs5⟩) hz.out); clear hSd hOd nf)
                        | (go_at_call 70; (with_reducible refine cS8.out.mono ?_); rintro e w7 ⟨⟨c7', rfl⟩, Y7, hE7, hL7, hdv7, hA7, hf7, z9⟩; have cD7 := Lib.hid (hborn.out _ Y7 a cap gb capc hE7 hdv7 hA7 hf7); replace hL7 := Lib.hid hL7; clear hE7 hA7 hf7 hdv7)
                        | (go_at_call 75; (with_reducible refine cD7.out.mono ?_); rintro e w8 ⟨⟨v8, rfl⟩, Y8, hE9, hL9⟩; have cK8 := Lib.hid (cK.out _ _ _ hE9 hw.out.1 hw.out.2); replace hL9 := Lib.hid (hL7.out.trans hL9); clear hE9)
                        | (go_at_call 73; (with_reducible refine cK8.out.mono ?_); rintro e w9 ⟨⟨v9, rfl⟩, Y9, hE10, hL10⟩; replace hE10 := Lib.hid hE10; replace hL10 := Lib.hid (hL9.out.trans hL10)))
                      go_ret
                      have hE11 := hE10.out
                      rw [hon2.out] at hE11
                      exact ⟨rfl, Y9, hE11, hL10.out⟩
              · rw [if_pos (by simpa using hc1)]
                have hc2 : (clashC (rTry s.al dn bo2) != 1) = true := by simpa using hc1
                clear hc1 hborn
                go_enter Tryz.func46, Tryz.ntmps46
                go_wp2_with (first
                  | (go_at_call 71; (with_reducible refine (cF.out _ hW0s.out).mono ?_); rintro e w2 ⟨rfl, hO2⟩; have hX2 := hW0s.out.trans hO2; obtain ⟨⟨c0, c1, c2, c3, c4, c5, c6, c7, c8, c9⟩, _⟩ := hC.out _ hX2; obtain ⟨r0, r1, r2, r3, r4, r5⟩ := hP.out _ hO2; replace hX2 := Lib.hid hX2; replace hO2 := Lib.hid hO2)
                  | (go_at_call 74; (with_reducible refine (cFi.out _ hX2.out).mono ?_); rintro e w3 ⟨rfl, hO3⟩; have hX3 := hX2.out.trans hO3; have hO23 := hO2.out.trans hO3; obtain ⟨⟨e0, e1, e2, e3, e4, e5, e6, e7, e8, e9⟩, _⟩ := hC.out _ hX3; obtain ⟨t0, t1, t2, t3, t4, t5⟩ := hP.out _ hO23; replace hX3 := Lib.hid hX3; clear hO3 hO23)
                  | (go_at_call 68; (with_reducible refine (cO.out _ hX3.out).mono ?_); rintro e w4 ⟨a, cap, rfl, hR4, hO4⟩; have hX4 := hX3.out.trans hO4; have hA4 := (hR4.at_ (by have := hbl.out; omega) : ItemsAt w4 a bo2); have haf := (fun b hb => ⟨Nat.le_trans hX3.out.size (fresh_ge hR4 b hb).1, (fresh_ge hR4 b hb).2⟩ : ∀ b, a.map (·.block) = some b → w.heap.size ≤ b ∧ b < w4.heap.size); obtain ⟨⟨g0, g1, g2, g3, g4, g5, g6, g7, g8, g9⟩, _⟩ := hC.out _ hX4; replace hX4 := Lib.hid hX4; replace hA4 := Lib.hid hA4; replace haf := Lib.hid haf; clear hR4 hO4)
                  | (go_at_call 69; (with_reducible refine (hcode.out a cap _ hX4.out hA4.out).mono ?_); rintro e w5 ⟨rfl, hO5⟩; have hX5 := hX4.out.trans hO5; have hA5 := Lib.hid (hA4.out.nil' hO5); have hs5 := hO5.size; obtain ⟨⟨i0, i1, i2, i3, i4, i5, i6, i7, i8, i9⟩, _⟩ := hC.out _ hX5; replace hX5 := Lib.hid hX5; clear hO5))
                go_ret
                exact ⟨rfl, hsame.out _ hX5.out⟩
            · rw [if_pos hb1]
              have hb2 : (bo1 != 1) = true := by simpa using hb1
              clear hb1 hborn hcode
              go_enter Tryz.func46, Tryz.ntmps46
              go_wp2_with (first
                | (go_at_call 71; (with_reducible refine (cF.out _ hW0s.out).mono ?_); rintro e w2 ⟨rfl, hO2⟩; have hX2 := hW0s.out.trans hO2; obtain ⟨⟨c0, c1, c2, c3, c4, c5, c6, c7, c8, c9⟩, _⟩ := hC.out _ hX2; obtain ⟨r0, r1, r2, r3, r4, r5⟩ := hP.out _ hO2; replace hX2 := Lib.hid hX2; replace hO2 := Lib.hid hO2)
                | (go_at_call 74; (with_reducible refine (cFi.out _ hX2.out).mono ?_); rintro e w3 ⟨rfl, hO3⟩; have hX3 := hX2.out.trans hO3; have hO23 := hO2.out.trans hO3; obtain ⟨⟨e0, e1, e2, e3, e4, e5, e6, e7, e8, e9⟩, _⟩ := hC.out _ hX3; obtain ⟨t0, t1, t2, t3, t4, t5⟩ := hP.out _ hO23; replace hX3 := Lib.hid hX3; clear hO3 hO23)
                | (go_at_call 68; (with_reducible refine (cO.out _ hX3.out).mono ?_); rintro e w4 ⟨a, cap, rfl, hR4, hO4⟩; have hX4 := hX3.out.trans hO4; have hA4 := (hR4.at_ (by have := hbl.out; omega) : ItemsAt w4 a bo2); have haf := (fun b hb => ⟨Nat.le_trans hX3.out.size (fresh_ge hR4 b hb).1, (fresh_ge hR4 b hb).2⟩ : ∀ b, a.map (·.block) = some b → w.heap.size ≤ b ∧ b < w4.heap.size); obtain ⟨⟨g0, g1, g2, g3, g4, g5, g6, g7, g8, g9⟩, _⟩ := hC.out _ hX4; replace hX4 := Lib.hid hX4; replace hA4 := Lib.hid hA4; replace haf := Lib.hid haf; clear hR4 hO4))
              go_ret
              exact ⟨rfl, hsame.out _ hX4.out⟩
        | true =>
          rw [if_neg (by simp)]
          have hpos : ePos s.dev dn = (rPos Dev.name s.dev dn : Nat) := by unfold ePos; rw [if_pos hh]
          rw [hpos] at cFi
          replace cFi := Lib.hid cFi
          obtain ⟨x, hx, hxn⟩ := rHas_some hh
          have hil := (List.getElem?_eq_some_iff.1 hx).1
          have hmk : ∀ l, eDev s.dev dn l = s.dev.set (rPos Dev.name s.dev dn) ⟨dn, true, l⟩ := fun l => by unfold eDev; rw [if_pos hh]
          rw [hmk]
          obtain ⟨gb, cp, d, hdv2, hd, hxd, hR0⟩ := yd_at h hil
          rw [hdv2] at hdv
          cases hdv
          have hflt := Lib.hid h.flt
          replace hset := fun W a cap (ho : Own [] w W) hz hA ha => hset W Y s a cap (h.nil' ho) rfl hz hA ha
          replace hborn := fun W Y' a cap hk hdv' hA ha => hborn W Y' { s with al := (rSet s.al dn (bornL p.M).2).2 } (rPos Dev.name s.dev dn) a cap x gb dc hk hx hdv' hA ha
          rw [hxn] at hborn
          generalize bornL p.M = bo at *
          obtain ⟨bo1, bo2⟩ := bo
          generalize rPos Dev.name s.dev dn = pos at *
          have q1 : (pos : Int) < (s.dev.length : Int) := by omega
          have q0 : (0 : Int) ≤ pos := by omega
          have hn0 : decide ((pos : Int) < 0) = false := by simp
          simp only at *
          replace hcode := Lib.hid hcode
          replace hset := Lib.hid hset
          replace hborn := Lib.hid hborn
          replace hdv2 := Lib.hid hdv2
          clear hM h0 h hr hv hon hlen hl4 hW0 hft hw0 hw1 hdn hpos hh hx hxn hd hxd hR0 hmk
          by_cases hb1 : bo1 = 1
          · subst hb1
            rw [if_neg (by simp)]
            by_cases hc1 : clashC (rTry s.al dn bo2) = 1
            · rw [if_neg (by simpa using hc1)]
              have hc2 : (clashC (rTry s.al dn bo2) != 1) = false := by simpa using hc1
              have hz := Lib.hid (rSet_code hc1)
              clear hc1
              generalize s.dev.length = N at *
              go_enter Tryz.func46, Tryz.ntmps46
              go_wp2_with (first
                | (go_at_call 71; (with_reducible refine (cF.out _ hW0s.out).mono ?_); rintro e w2 ⟨rfl, hO2⟩; have hX2 := hW0s.out.trans hO2; obtain ⟨⟨c0, c1, c2, c3, c4, c5, c6, c7, c8, c9⟩, _⟩ := hC.out _ hX2; obtain ⟨r0, r1, r2, r3, r4, r5⟩ := hP.out _ hO2; replace hX2 := Lib.hid hX2; replace hO2 := Lib.hid hO2)
                | (go_at_call 74; (with_reducible refine (cFi.out _ hX2.out).mono ?_); rintro e w3 ⟨rfl, hO3⟩; have hX3 := hX2.out.trans hO3; have hO23 := hO2.out.trans hO3; obtain ⟨⟨e0, e1, e2, e3, e4, e5, e6, e7, e8, e9⟩, _⟩ := hC.out _ hX3; obtain ⟨t0, t1, t2, t3, t4, t5⟩ := hP.out _ hO23; replace hX3 := Lib.hid hX3; clear hO3 hO23)
                | (go_at_call 68; (with_reducible refine (cO.out _ hX3.out).mono ?_); rintro e w4 ⟨a, cap, rfl, hR4, hO4⟩; have hX4 := hX3.out.trans hO4; have hA4 := (hR4.at_ (by have := hbl.out; omega) : ItemsAt w4 a bo2); have haf := (fun b hb => ⟨Nat.le_trans hX3.out.size (fresh_ge hR4 b hb).1, (fresh_ge hR4 b hb).2⟩ : ∀ b, a.map (·.block) = some b → w.heap.size ≤ b ∧ b < w4.heap.size); obtain ⟨⟨g0, g1, g2, g3, g4, g5, g6, g7, g8, g9⟩, _⟩ := hC.out _ hX4; replace hX4 := Lib.hid hX4; replace hA4 := Lib.hid hA4; replace haf := Lib.hid haf; clear hR4 hO4)
                | (go_at_call 69; (with_reducible refine (hcode.out a cap _ hX4.out hA4.out).mono ?_); rintro e w5 ⟨rfl, hO5⟩; have hX5 := hX4.out.trans hO5; have hA5 := Lib.hid (hA4.out.nil' hO5); have hs5 := hO5.size; obtain ⟨⟨i0, i1, i2, i3, i4, i5, i6, i7, i8, i9⟩, _⟩ := hC.out _ hX5; replace hX5 := Lib.hid hX5; clear hO5)
                | (go_at_call 70; (with_reducible refine (hset.out _ a cap hX5.out hz.out hA5.out (fun b hb hx => absurd (hflt.out b hx) (Nat.not_lt.2 (haf.out b hb).1))).mono ?_); rintro e w7 ⟨⟨c7', rfl⟩, Y7, hE7, hL7, hdv7, _, hA7⟩; obtain ⟨⟨_, _, _, _, _, _, _, _, _, z9⟩, _⟩ := hC2.out _ _ _ hE7; rw [hdv7, hdv2.out] at z9; have cD7 := Lib.hid (hborn.out _ Y7 a cap hE7 (by rw [hdv7]; exact hdv2.out) hA7 (fun b hb hx => by rcases hL7.2.1 b hx with h1 | h1; exact absurd (hflt.out b h1) (Nat.not_lt.2 (haf.out b hb).1); have := (haf.out b hb).2; omega)); replace hL7 := Lib.hid ((YLeft.nil hX5.out).trans hL7); clear hE7 hA7)
                | (go_at_call 75; (with_reducible refine cD7.out.mono ?_); rintro e w8 ⟨⟨v8, rfl⟩, Y8, hE8, hL8⟩; have cK8 := Lib.hid (cK.out _ _ _ hE8 hw.out.1 hw.out.2); replace hL8 := Lib.hid (hL7.out.trans hL8); clear hE8)
                | (go_at_call 73; (with_reducible refine cK8.out.mono ?_); rintro e w9 ⟨⟨v9, rfl⟩, Y9, hE9, hL9⟩; replace hE9 := Lib.hid hE9; replace hL9 := Lib.hid (hL8.out.trans hL9)))
              go_ret
              have hE10 := hE9.out
              rw [hon2.out] at hE10
              exact ⟨rfl, Y9, hE10, hL9.out⟩
            · rw [if_pos (by simpa using hc1)]
              have hc2 : (clashC (rTry s.al dn bo2) != 1) = true := by simpa using hc1
              clear hc1 hset hborn
              generalize s.dev.length = N at *
              go_enter Tryz.func46, Tryz.ntmps46
              go_wp2_with (first
                | (go_at_call 71; (with_reducible refine (cF.out _ hW0s.out).mono ?_); rintro e w2 ⟨rfl, hO2⟩; have hX2 := hW0s.out.trans hO2; obtain ⟨⟨c0, c1, c2, c3, c4, c5, c6, c7, c8, c9⟩, _⟩ := hC.out _ hX2; obtain ⟨r0, r1, r2, r3, r4, r5⟩ := hP.out _ hO2; replace hX2 := Lib.hid hX2; replace hO2 := Lib.hid hO2)
                | (go_at_call 74; (with_reducible refine (cFi.out _ hX2.out).mono ?_); rintro e w3 ⟨rfl, hO3⟩; have hX3 := hX2.out.trans hO3; have hO23 := hO2.out.trans hO3; obtain ⟨⟨e0, e1, e2, e3, e4, e5, e6, e7, e8, e9⟩, _⟩ := hC.out _ hX3; obtain ⟨t0, t1, t2, t3, t4, t5⟩ := hP.out _ hO23; replace hX3 := Lib.hid hX3; clear hO3 hO23)
                | (go_at_call 68; (with_reducible refine (cO.out _ hX3.out).mono ?_); rintro e w4 ⟨a, cap, rfl, hR4, hO4⟩; have hX4 := hX3.out.trans hO4; have hA4 := (hR4.at_ (by have := hbl.out; omega) : ItemsAt w4 a bo2); have haf := (fun b hb => ⟨Nat.le_trans hX3.out.size (fresh_ge hR4 b hb).1, (fresh_ge hR4 b hb).2⟩ : ∀ b, a.map (·.block) = some b → w.heap.size ≤ b ∧ b < w4.heap.size); obtain ⟨⟨g0, g1, g2, g3, g4, g5, g6, g7, g8, g9⟩, _⟩ := hC.out _ hX4; replace hX4 := Lib.hid hX4; replace hA4 := Lib.hid hA4; replace haf := Lib.hid haf; clear hR4 hO4)
                | (go_at_call 69; (with_reducible refine (hcode.out a cap _ hX4.out hA4.out).mono ?_); rintro e w5 ⟨rfl, hO5⟩; have hX5 := hX4.out.trans hO5; have hA5 := Lib.hid (hA4.out.nil' hO5); have hs5 := hO5.size; obtain ⟨⟨i0, i1, i2, i3, i4, i5, i6, i7, i8, i9⟩, _⟩ := hC.out _ hX5; replace hX5 := Lib.hid hX5; clear hO5))
              go_ret
              exact ⟨rfl, hsame.out _ hX5.out⟩
          · rw [if_pos hb1]
            have hb2 : (bo1 != 1) = true := by simpa using hb1
            clear hb1 hset hborn hcode
            generalize s.dev.length = N at *
            go_enter Tryz.func46, Tryz.ntmps46
            go_wp2_with (first
              | (go_at_call 71; (with_reducible refine (cF.out _ hW0s.out).mono ?_); rintro e w2 ⟨rfl, hO2⟩; have hX2 := hW0s.out.trans hO2; obtain ⟨⟨c0, c1, c2, c3, c4, c5, c6, c7, c8, c9⟩, _⟩ := hC.out _ hX2; obtain ⟨r0, r1, r2, r3, r4, r5⟩ := hP.out _ hO2; replace hX2 := Lib.hid hX2; replace hO2 := Lib.hid hO2)
              | (go_at_call 74; (with_reducible refine (cFi.out _ hX2.out).mono ?_); rintro e w3 ⟨rfl, hO3⟩; have hX3 := hX2.out.trans hO3; have hO23 := hO2.out.trans hO3; obtain ⟨⟨e0, e1, e2, e3, e4, e5, e6, e7, e8, e9⟩, _⟩ := hC.out _ hX3; obtain ⟨t0, t1, t2, t3, t4, t5⟩ := hP.out _ hO23; replace hX3 := Lib.hid hX3; clear hO3 hO23)
              | (go_at_call 68; (with_reducible refine (cO.out _ hX3.out).mono ?_); rintro e w4 ⟨a, cap, rfl, hR4, hO4⟩; have hX4 := hX3.out.trans hO4; have hA4 := (hR4.at_ (by have := hbl.out; omega) : ItemsAt w4 a bo2); have haf := (fun b hb => ⟨Nat.le_trans hX3.out.size (fresh_ge hR4 b hb).1, (fresh_ge hR4 b hb).2⟩ : ∀ b, a.map (·.block) = some b → w.heap.size ≤ b ∧ b < w4.heap.size); obtain ⟨⟨g0, g1, g2, g3, g4, g5, g6, g7, g8, g9⟩, _⟩ := hC.out _ hX4; replace hX4 := Lib.hid hX4; replace hA4 := Lib.hid hA4; replace haf := Lib.hid haf; clear hR4 hO4))
            go_ret
            exact ⟨rfl, hsame.out _ hX4.out⟩
end Go.Proofs.YtjfmbjgniajagaaGreatDoor
