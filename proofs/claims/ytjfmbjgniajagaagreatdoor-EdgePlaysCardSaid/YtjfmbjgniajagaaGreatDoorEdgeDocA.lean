/- The document's node (chapter 33) in memory; what finds, fits, counts on. The document's node (chapter 33): birth, data, death. The document's devices (chapter 32) in a row: Born, Told, Dies; a node of which one device is another. The document's node (chapter 33): birth, death, what a device tells. -/
import Derived.Test.YtjfmbjgniajagaaGreatDoorEdgeOps
import Derived.Test.YtjfmbjgniajagaaGreatDoorEdgeDocPay
import Derived.Test.YtjfmbjgniajagaaGreatDoorAliasRefAll
import Derived.Test.YtjfmbjgniajagaaGreatDoorItemsRefAll
import Derived.Test.YtjfmbjgniajagaaGreatDoorSteps
import Derived.Deep.LoopGhost
import Derived.Deep.RegionHeld3
set_option linter.unusedSimpArgs false
set_option linter.unusedVariables false
namespace Go.Proofs.YtjfmbjgniajagaaGreatDoor
open Go.RowKit

/-- A device of the document's, as it lies. -/
structure YD where
  x : Dev
  a : Option Addr
  cap : Nat
  lives : Int
/-- Where the parts of the document's node lie. -/
structure YW where
  ab : Nat
  av : Value
  ia : Option Addr
  ic : Nat
  dv : Value
  ds : List YD
def ydEnc (d : YD) : List Value := [.string d.x.name, .bool d.x.on, .slice d.a d.x.items.length d.cap, .int .i64 d.lives]
theorem ydEnc_len (d : YD) : (ydEnc d).length = 4 := rfl
theorem ydInfo : (Tryz.prog.info? 91).map (fun i => (i.zero, i.size, i.bytes)) = some (some (.agg #[.string ⟨#[]⟩, .bool false, .slice none 0 0, .int .i64 0]), 4, 56) := by kernel_rfl
theorem ydElem : Elem Tryz.prog 67 91 ydEnc 4 56 where
  ut := Tryz.underlying67
  info := by obtain ⟨i, h1, h2, h3, h4⟩ := info_parts ydInfo; exact ⟨i, _, h1, h2, h3, h4, rfl⟩
  pos := by omega
  len := ydEnc_len
  one x u hu := by simp [ydEnc] at hu; rcases hu with rfl | rfl | rfl | rfl <;> rfl
def YW.feet (Y : YW) (n : Nat) : List Nat := n :: Y.ab :: Y.dv.ownBlock.toList
def YW.held (Y : YW) : List Nat := Y.av.ownBlock.toList ++ (blkOf Y.ia ++ Y.ds.flatMap fun d => blkOf d.a)
def yRow (g nm : ByteArray) (Y : YW) (s : EN) : Array Value := #[.string g, .string nm, .bool s.online, .int .i64 s.bd, .int .i64 s.want, .bool s.begun, .bool s.pending, .slice Y.ia s.items.length Y.ic, .pointer (some ⟨Y.ab, 0, none⟩), Y.dv]
structure YAt (w : World) (n : Nat) (g nm : ByteArray) (Y : YW) (s : EN) : Prop where
  row : w.heap[n]? = some (.cells (yRow g nm Y s) 69 (0, 0))
  tab : RTab w Y.ab Y.av s.al
  itm : ItemsAt w Y.ia s.items
  dvs : Sl 91 ydEnc 4 0 w Y.dv Y.ds
  dev : Y.ds.map YD.x = s.dev
  itd : ∀ d ∈ Y.ds, ItemsAt w d.a d.x.items
  apart : (Y.feet n).Nodup ∧ ∀ x ∈ Y.held, x ∉ Y.feet n
  lt : ∀ x ∈ Y.held, x < w.heap.size
  few : (s.items.length ≤ 32 ∧ s.al.length ≤ 64 ∧ s.dev.length ≤ 4) ∧ ∀ x ∈ s.dev, x.items.length ≤ 32
theorem YW.held_ia {Y : YW} {b : Nat} (h : Y.ia.map (·.block) = some b) : b ∈ Y.held := by unfold YW.held; simp [blkOf_mem h]
theorem YW.held_av {Y : YW} {b : Nat} (h : Y.av.ownBlock = some b) : b ∈ Y.held := by unfold YW.held; simp [h]
theorem YW.held_d {Y : YW} {d : YD} (hd : d ∈ Y.ds) {b : Nat} (h : d.a.map (·.block) = some b) : b ∈ Y.held := by
  unfold YW.held
  simp only [List.mem_append, List.mem_flatMap]
  exact .inr (.inr ⟨d, hd, blkOf_mem h⟩)
theorem YW.feet_dv {Y : YW} {n b : Nat} (h : Y.dv.ownBlock = some b) : b ∈ Y.feet n := by unfold YW.feet; simp [h]
theorem YAt.own {S : List Nat} {w w' : World} {n : Nat} {g nm : ByteArray} {Y : YW} {s : EN} (h : YAt w n g nm Y s) (ho : Own S w w') (h1 : ∀ x ∈ Y.feet n, x ∉ S) (h2 : ∀ x ∈ Y.held, x ∉ S) : YAt w' n g nm Y s :=
  ⟨ho.heap h.row (h1 _ (by unfold YW.feet; simp)), h.tab.own' ho (h1 _ (by unfold YW.feet; simp)) (fun b hb => h2 _ (YW.held_av hb)), h.itm.own ho (fun b hb => h2 _ (YW.held_ia hb)), h.dvs.own ho (fun b hb => h1 _ (YW.feet_dv hb)), h.dev, fun d hd => (h.itd d hd).own ho (fun b hb => h2 _ (YW.held_d hd hb)), h.apart, fun x hx => Nat.lt_of_lt_of_le (h.lt x hx) ho.size, h.few⟩
theorem YAt.nil' {w w' : World} {n : Nat} {g nm : ByteArray} {Y : YW} {s : EN} (h : YAt w n g nm Y s) (ho : Own [] w w') : YAt w' n g nm Y s := h.own ho (by simp) (by simp)
theorem YAt.flt {w : World} {n : Nat} {g nm : ByteArray} {Y : YW} {s : EN} (h : YAt w n g nm Y s) : ∀ x ∈ Y.feet n, x < w.heap.size := by
  intro x hx
  unfold YW.feet at hx
  simp only [List.mem_cons] at hx
  rcases hx with rfl | rfl | hx
  · exact lt_of_heap h.row
  · exact lt_of_heap h.tab.row
  · exact (h.dvs.block (Option.mem_toList.1 hx)).2
/-- What a step leaves. -/
def YLeft (n : Nat) (Y : YW) (w w' : World) (Y' : YW) : Prop := Own (Y.feet n) w w' ∧ (∀ x ∈ Y'.feet n, x ∈ Y.feet n ∨ w.heap.size ≤ x) ∧ (∀ x ∈ Y'.held, x ∈ Y.held ∨ w.heap.size ≤ x)
theorem YLeft.nil {n : Nat} {Y : YW} {w w' : World} (ho : Own [] w w') : YLeft n Y w w' Y := ⟨ho.nil, fun _ h => .inl h, fun _ h => .inl h⟩
theorem YLeft.trans {n : Nat} {Y Y1 Y2 : YW} {w w1 w2 : World} (h : YLeft n Y w w1 Y1) (k : YLeft n Y1 w1 w2 Y2) : YLeft n Y w w2 Y2 := by
  refine ⟨h.1.trans' k.1 h.2.1, fun x hx => ?_, fun x hx => ?_⟩
  · rcases k.2.1 x hx with h1 | h1
    · exact h.2.1 x h1
    · exact .inr (Nat.le_trans h.1.size h1)
  · rcases k.2.2 x hx with h1 | h1
    · exact h.2.2 x h1
    · exact .inr (Nat.le_trans h.1.size h1)
def YPost (n : Nat) (g nm : ByteArray) (Y : YW) (r : Int × EN) (w : World) (e : Ending) (w' : World) : Prop :=
  e = .returned (.int .i64 r.1) ∧ ∃ Y', YAt w' n g nm Y' r.2 ∧ YLeft n Y w w' Y'
theorem YAt.same {w w' : World} {n : Nat} {g nm : ByteArray} {Y : YW} {s : EN} (h : YAt w n g nm Y s) (ho : Own [] w w') : ∃ Y', YAt w' n g nm Y' s ∧ YLeft n Y w w' Y' := ⟨Y, h.nil' ho, YLeft.nil ho⟩
theorem ycells {w : World} {n : Nat} {g nm : ByteArray} {Y : YW} {s : EN} (h : YAt w n g nm Y s) (W : World) (ho : Own [] w W) :
    (W.cell? ⟨n, 0, none⟩ = some (.string g) ∧ W.cell? ⟨n, 1, none⟩ = some (.string nm) ∧ W.cell? ⟨n, 2, none⟩ = some (.bool s.online) ∧ W.cell? ⟨n, 3, none⟩ = some (.int .i64 s.bd) ∧ W.cell? ⟨n, 4, none⟩ = some (.int .i64 s.want) ∧ W.cell? ⟨n, 5, none⟩ = some (.bool s.begun) ∧ W.cell? ⟨n, 6, none⟩ = some (.bool s.pending) ∧ W.cell? ⟨n, 7, none⟩ = some (.slice Y.ia s.items.length Y.ic) ∧ W.cell? ⟨n, 8, none⟩ = some (.pointer (some ⟨Y.ab, 0, none⟩)) ∧ W.cell? ⟨n, 9, none⟩ = some Y.dv) ∧ ∀ o, W.frozen? ⟨n, o, none⟩ = false := by
  have hr := ho.heap h.row (by simp)
  exact ⟨⟨cell_of_row W _ 0 _ _ _ hr, cell_of_row W _ 1 _ _ _ hr, cell_of_row W _ 2 _ _ _ hr, cell_of_row W _ 3 _ _ _ hr, cell_of_row W _ 4 _ _ _ hr, cell_of_row W _ 5 _ _ _ hr, cell_of_row W _ 6 _ _ _ hr, cell_of_row W _ 7 _ _ _ hr, cell_of_row W _ 8 _ _ _ hr, cell_of_row W _ 9 _ _ _ hr⟩, fun o => frozen_of_row _ _ _ _ _ hr⟩
/-- Cells of the node alone have changed. -/
theorem YAt.cells {w w' : World} {n : Nat} {g nm : ByteArray} {Y : YW} {s s' : EN} (h : YAt w n g nm Y s) (ho : Own [n] w w') {a : Option Addr} {cap : Nat} (hrow : w'.heap[n]? = some (.cells (yRow g nm { Y with ia := a, ic := cap } s') 69 (0, 0)))
    (hal : s'.al = s.al) (hdv : s'.dev = s.dev) (hi : ItemsAt w' a s'.items) (hl : s'.items.length ≤ 32) (ha : ∀ b, a.map (·.block) = some b → b < w'.heap.size ∧ (b ∈ Y.held ∨ w.heap.size ≤ b)) :
    YAt w' n g nm { Y with ia := a, ic := cap } s' ∧ YLeft n Y w w' { Y with ia := a, ic := cap } := by
  have hA := h.apart
  obtain ⟨hA1, hA2⟩ := h.apart
  have hn : n ∈ Y.feet n := by unfold YW.feet; simp
  have hne : ∀ x ∈ Y.held, x ∉ [n] := fun x hx => by simp; rintro rfl; exact hA2 _ hx hn
  have hnf : ∀ x ∈ Y.feet n, x ≠ n → x ∉ [n] := fun x _ h1 => by simpa using h1
  unfold YW.feet at hA1
  simp only [List.nodup_cons, List.mem_cons, not_or] at hA1
  obtain ⟨⟨a1, a2⟩, a3, a4⟩ := hA1
  have hheld : ∀ x ∈ ({ Y with ia := a, ic := cap } : YW).held, x ∈ Y.held ∨ (w.heap.size ≤ x ∧ x < w'.heap.size) := fun x hx => by
    unfold YW.held at hx ⊢
    simp only [List.mem_append] at hx ⊢
    rcases hx with h1 | h1 | h1
    · exact .inl (.inl h1)
    · obtain ⟨q1, q2⟩ := ha x (mem_blkOf h1)
      rcases q2 with q2 | q2
      · unfold YW.held at q2
        simp only [List.mem_append] at q2
        exact .inl q2
      · exact .inr ⟨q2, q1⟩
    · exact .inl (.inr (.inr h1))
  refine ⟨⟨hrow, ?_, hi, h.dvs.own ho (fun b hb => hnf b (YW.feet_dv hb) (by rintro rfl; exact a2 (by simp [hb]))), by rw [hdv]; exact h.dev, fun d hd => (h.itd d hd).own ho (fun b hb => hne b (YW.held_d (Y := Y) hd hb)), ⟨hA.1, fun x hx => ?_⟩, fun x hx => ?_, ?_⟩, ho.mono (fun x hx => by simp at hx; subst hx; exact hn), fun x hx => .inl hx, fun x hx => ?_⟩
  · rw [hal]
    exact h.tab.own' ho (by simp; exact fun e => a1 e.symm) (fun b hb => hne b (YW.held_av hb))
  · rcases hheld x hx with h1 | ⟨h1, _⟩
    · exact hA2 x h1
    · exact fun h2 => by have := h.flt x h2; omega
  · rcases hheld x hx with h1 | ⟨_, h1⟩
    · exact Nat.lt_of_lt_of_le (h.lt x h1) ho.size
    · exact h1
  · rw [hal, hdv]
    exact ⟨⟨hl, h.few.1.2⟩, h.few.2⟩
  · rcases hheld x hx with h1 | ⟨h1, _⟩
    · exact .inl h1
    · exact .inr h1
/-- Where a device stands. -/
def ePos (D : List Dev) (dn : ByteArray) : Int := if rHas Dev.name D dn = true then rPos Dev.name D dn else -1
theorem ePos_at {D : List Dev} (hr : Rises Dev.name D) {dn : ByteArray} {k : Nat} {x : Dev} (hk : D[k]? = some x) (hn : x.name = dn) : ePos D dn = k := by
  have hm := List.mem_of_getElem? hk
  have h1 := rHas_of hr hm hn
  have h2 := rPos_known hr hm hn
  unfold ePos
  rw [if_pos h1]
  have hnd := rises_nodup hr
  have hk1 := (List.getElem?_eq_some_iff.1 hk)
  have hk2 := (List.getElem?_eq_some_iff.1 h2)
  have : rPos Dev.name D dn = k := by
    have e1 : (D.map Dev.name)[rPos Dev.name D dn]'(by simpa using hk2.1) = (D.map Dev.name)[k]'(by simpa using hk1.1) := by simp [hk1.2, hk2.2]
    exact (List.getElem_inj hnd).1 e1
  rw [this]
theorem ePos_no {D : List Dev} {dn : ByteArray} (h : ∀ k x, k < D.length → D[k]? = some x → x.name ≠ dn) : ePos D dn = -1 := by
  have : rHas Dev.name D dn = false := rHas_no fun p hp => by
    obtain ⟨k, hk⟩ := List.getElem?_of_mem hp
    exact h k p (List.getElem?_eq_some_iff.1 hk).1 hk
  unfold ePos
  rw [this]; simp
theorem yd_at {w : World} {n : Nat} {g nm : ByteArray} {Y : YW} {s : EN} (h : YAt w n g nm Y s) {k : Nat} (hk : k < s.dev.length) :
    ∃ gb cp d, Y.dv = .slice (some ⟨gb, 0, none⟩) s.dev.length cp ∧ Y.ds[k]? = some d ∧ s.dev[k]? = some d.x ∧ Row 91 ydEnc 4 w gb cp Y.ds := by
  have hl : Y.ds.length = s.dev.length := by rw [← h.dev]; simp
  have hk2 : k < Y.ds.length := by omega
  rcases h.dvs.form with ⟨h1, h2⟩ | ⟨gb, cp, h1, _, hR⟩
  · rw [h2] at hk2; simp at hk2
  · refine ⟨gb, cp, Y.ds[k], by rw [h1, hl], List.getElem?_eq_getElem hk2, ?_, hR⟩
    rw [← h.dev, List.getElem?_map, List.getElem?_eq_getElem hk2]; rfl
theorem yd_cells {w : World} {gb cp : Nat} {ds : List YD} (h : Row 91 ydEnc 4 w gb cp ds) {k : Nat} {d : YD} (hd : ds[k]? = some d) :
    (w.cell? ⟨gb, k * 4, none⟩ = some (.string d.x.name) ∧ w.cell? ⟨gb, k * 4 + 1, none⟩ = some (.bool d.x.on) ∧ w.cell? ⟨gb, k * 4 + 2, none⟩ = some (.slice d.a d.x.items.length d.cap) ∧ w.cell? ⟨gb, k * 4 + 3, none⟩ = some (.int .i64 d.lives)) ∧ ∀ o, w.frozen? ⟨gb, o, none⟩ = false := by
  have hc : ∀ j v, (ydEnc d)[j]? = some v → w.cell? ⟨gb, k * 4 + j, none⟩ = some v := fun j v hv => h.cell ydEnc_len hd hv
  exact ⟨⟨hc 0 _ rfl, hc 1 _ rfl, hc 2 _ rfl, hc 3 _ rfl⟩, fun o => h.frozen o⟩
set_option maxRecDepth 100000 in
set_option maxHeartbeats 4000000 in
theorem yfind_any (n : Nat) (g nm : ByteArray) (Y : YW) (s : EN) (dn : ByteArray) (w : World) (h : YAt w n g nm Y s) (hr : Rises Dev.name s.dev) :
    Calls Tryz.prog 74 #[.pointer (some ⟨n, 0, none⟩), .string dn] w fun e w' => e = .returned (.int .i64 (ePos s.dev dn)) ∧ Own [] w w' := by
  have hC := Lib.hid fun W (ho : Own [] w W) => ycells h W ho
  have hD := Lib.hid fun W k (ho : Own [] w W) (hk : k < s.dev.length) => yd_at (h.nil' ho) hk
  have hP := Lib.hid fun k x => ePos_at (dn := dn) hr (k := k) (x := x)
  have hN := Lib.hid fun hh => ePos_no (D := s.dev) (dn := dn) hh
  have hl4 := h.few.1.2.2
  obtain ⟨da, dc, hdv⟩ := h.dvs.sl
  have hl : Y.ds.length = s.dev.length := by rw [← h.dev]; simp
  rw [hl] at hdv
  generalize ePos s.dev dn = pos at *
  replace hdv := Lib.hid hdv
  clear h hr hl
  go_enter Tryz.func74, Tryz.ntmps74
  go_wp2_with fail
  go_loopg [5] s.dev.length (fun m s5 wr => ∃ k : Nat, k ≤ s.dev.length ∧ m = s.dev.length - k ∧ s5 = .int .i64 k ∧ Aside (Own [] w wr ∧ ∀ j x, j < k → s.dev[j]? = some x → x.name ≠ dn))
  case atStart => exact ⟨0, by omega, by omega, rfl, Own.refl _ _, fun j x hj => by omega⟩
  case round =>
    obtain ⟨k, hk, rfl, rfl, hO, hno⟩ := hrel
    obtain ⟨⟨c0, c1, c2, c3, c4, c5, c6, c7, c8, c9⟩, _⟩ := hC.out _ hO
    rw [hdv.out] at c9
    have k0 : (0 : Int) ≤ k := by omega
    by_cases hlt : k < s.dev.length
    · obtain ⟨gb, cp, d, e1, hd, hx, hR⟩ := hD.out _ k hO hlt
      rw [hdv.out] at e1
      cases e1
      obtain ⟨⟨d0, d1, d2, d3⟩, _⟩ := yd_cells hR hd
      have k1 : (k : Int) < s.dev.length := by omega
      have hnx : (d.x.name.toList == dn.toList) = false → d.x.name ≠ dn := fun h1 e => by rw [e] at h1; simp at h1
      have hnx2 : (d.x.name.toList == dn.toList) = true → d.x.name = dn := fun h1 => toList_inj (by simpa using h1)
      have hP2 := Lib.hid (hP.out k d.x hx)
      have hst : (d.x.name.toList == dn.toList) = false → ∀ j x, j < k + 1 → s.dev[j]? = some x → x.name ≠ dn := fun h1 j x hj hjx => by
        rcases Nat.lt_or_ge j k with h2 | h2
        · exact hno j x h2 hjx
        · obtain rfl : j = k := by omega
          rw [hx] at hjx
          cases hjx
          exact hnx h1
      generalize d.x = y at *
      replace hO := Lib.hid hO
      clear hno hR hx hd
      cases hq : (y.name.toList == dn.toList)
      · have hst2 := Lib.hid (hst hq)
        clear hst hnx hnx2
        go_wp2_with fail
        go_roundg (s.dev.length - (k + 1))
        case measure => omega
        case rel => exact ⟨k + 1, by omega, rfl, by go_num, hO.out, hst2.out⟩
      · have hpp := Lib.hid (hP2.out (hnx2 hq))
        clear hst hnx hnx2
        go_wp2_with fail
        go_ret
        exact ⟨by rw [hpp.out]; rfl, hO.out⟩
    · have hpp := Lib.hid (hN.out (fun k' x hk' hx => hno k' x (by omega) hx))
      replace hO := Lib.hid hO
      clear hno
      go_wp2_with fail
      go_ret
      exact ⟨by rw [hpp.out]; rfl, hO.out⟩
set_option maxHeartbeats 2000000 in
theorem yfits_any (n : Nat) (g nm : ByteArray) (Y : YW) (s : EN) (p : Pay) (w : World) (h : YAt w n g nm Y s) (h0 : 0 ≤ p.s) :
    Calls Tryz.prog 71 #[.pointer (some ⟨n, 0, none⟩), p.val] w fun e w' => e = .returned (.bool (eFits s p)) ∧ Own [] w w' := by
  have hW0 := pbox_own w p
  have cS := rpseq_any p (pbox w p) h0
  have hC := Lib.hid fun W (ho : Own [] w W) => ycells h W ho
  obtain ⟨p0, p1, p2, p3, p4, p5⟩ := pbox_cells w p (S := []) (by simp) _ (Own.refl _ _)
  have hv : p.val = .agg #[.int .u64 p.t, .bool p.h, .int .u64 p.s, .string p.u, .string p.b, .slice p.a p.M.length p.c] := rfl
  unfold eFits
  rw [hv] at cS ⊢
  simp only [pbox] at hW0 cS p0 p1 p2 p3 p4 p5
  generalize p.seq = sq at *
  obtain ⟨q1, q2⟩ := sq
  simp only at cS ⊢
  replace cS := Lib.hid cS
  replace hW0 := Lib.hid hW0
  generalize s.begun = bg at *
  generalize s.want = wt at *
  clear h h0 hv
  cases q2 <;> cases bg
  all_goals
    go_enter Tryz.func71, Tryz.ntmps71
    go_wp2_with (go_at_call 67; (with_reducible refine cS.out.mono ?_); rintro e w2 ⟨rfl, hO2⟩; have hX2 := hW0.out.trans hO2; obtain ⟨⟨c0, c1, c2, c3, c4, c5, c6, c7, c8, c9⟩, _⟩ := hC.out _ hX2; replace hX2 := Lib.hid hX2; clear hO2)
    go_ret
    exact ⟨by simp, hX2.out⟩
theorem ytook_any (n : Nat) (g nm : ByteArray) (Y : YW) (s : EN) (w : World) (h : YAt w n g nm Y s) (h0 : 0 ≤ s.want) (h1 : s.want < 256) :
    Calls Tryz.prog 73 #[.pointer (some ⟨n, 0, none⟩)] w fun e w' => (∃ v, e = .returned v) ∧ YAt w' n g nm Y { s with want := (s.want + 1) % 256 } ∧ YLeft n Y w w' Y := by
  obtain ⟨⟨c0, c1, c2, c3, c4, c5, c6, c7, c8, c9⟩, hf⟩ := ycells h w (Own.refl _ _)
  have f4 := hf 4
  have hw1 : IntKind.i64.wrap (s.want + 1) = s.want + 1 := IntWalk.i64_in _ (by omega)
  have htm : (s.want + 1).tmod 256 = (s.want + 1) % 256 := Int.tmod_eq_emod_of_nonneg (by omega)
  have hend := h.cells (s' := { s with want := (s.want + 1) % 256 }) (w' := w.setCell ⟨n, 4, none⟩ (.int .i64 ((s.want + 1) % 256))) ((Own.refl _ _).setCell (by simp) _) (a := Y.ia) (cap := Y.ic) (heap_setCell_same _ _ _ _ _ _ h.row) rfl rfl
    (h.itm.own ((Own.refl [n] _).setCell (by simp) _) (fun b hb => by simp; rintro rfl; exact h.apart.2 _ (YW.held_ia hb) (by unfold YW.feet; simp))) h.few.1.1 (fun b hb => ⟨by have := h.lt b (YW.held_ia hb); simpa using this, .inl (YW.held_ia hb)⟩)
  replace hend := Lib.hid hend
  clear h
  go_enter Tryz.func73, Tryz.ntmps73
  go_wp2_with fail
  go_end0
  exact ⟨⟨_, rfl⟩, hend.out⟩
theorem ycode_any (n : Nat) (ab : Nat) (av : Value) (R : ATab) (ow : ByteArray) (a : Option Addr) (l : List Itm) (c : Nat) (w : World) (hc : w.cell? ⟨n, 8, none⟩ = some (.pointer (some ⟨ab, 0, none⟩))) (hT : RTab w ab av R) (hl : R.length ≤ 64) (hA : ItemsAt w a l) :
    Calls Tryz.prog 69 #[.pointer (some ⟨n, 0, none⟩), .string ow, .slice a l.length c] w fun e w' => e = .returned (.int .i64 (clashC (rTry R ow l))) ∧ Own [] w w' := by
  have cT := Lib.hid (rtry_any ab av R ow a l c w hT (by omega) hA)
  clear hT hA hl
  unfold clashC
  generalize rTry R ow l = t at *
  by_cases h0 : t = 0
  · subst h0
    go_enter Tryz.func69, Tryz.ntmps69
    go_wp2_with (go_at_call 102; (with_reducible refine cT.out.mono ?_); rintro e w2 ⟨rfl, hO2⟩; replace hO2 := Lib.hid hO2)
    go_ret
    exact ⟨by simp, hO2.out⟩
  · by_cases h1 : t = 16
    · subst h1
      go_enter Tryz.func69, Tryz.ntmps69
      go_wp2_with (go_at_call 102; (with_reducible refine cT.out.mono ?_); rintro e w2 ⟨rfl, hO2⟩; replace hO2 := Lib.hid hO2)
      go_ret
      exact ⟨by simp, hO2.out⟩
    · rw [if_neg h0, if_neg h1]
      have b0 : (t != 0) = true := by simpa using h0
      have b1 : (t == 16) = false := by simpa using h1
      clear h0 h1
      go_enter Tryz.func69, Tryz.ntmps69
      go_wp2_with (go_at_call 102; (with_reducible refine cT.out.mono ?_); rintro e w2 ⟨rfl, hO2⟩; replace hO2 := Lib.hid hO2)
      go_ret
      exact ⟨rfl, hO2.out⟩
end Go.Proofs.YtjfmbjgniajagaaGreatDoor

set_option linter.unusedSimpArgs false
set_option linter.unusedVariables false
namespace Go.Proofs.YtjfmbjgniajagaaGreatDoor
open Go.RowKit

def xBirth (s : EN) (p : Pay) : Int × EN :=
  if p.bd.2 = false then (9, s) else if p.seq.2 = false then (4, s) else if (bornL p.M).1 ≠ 1 then ((bornL p.M).1, s)
  else if clashC (rTry [] noName (bornL p.M).2) ≠ 1 then (clashC (rTry [] noName (bornL p.M).2), s)
  else (1, ⟨true, p.bd.1, (p.seq.1 + 1) % 256, true, false, (bornL p.M).2, (rSet [] noName (bornL p.M).2).2, []⟩)
def xData (s : EN) (p : Pay) : Int × EN :=
  if s.online = false then (5, s) else if eFits s p = false then (4, s)
  else if (updGo (rFind s.al noName) p.M s.items).1 ≠ 1 then ((updGo (rFind s.al noName) p.M s.items).1, s)
  else (1, { s with items := (updGo (rFind s.al noName) p.M s.items).2, want := (s.want + 1) % 256 })
theorem rSet_code {ow : ByteArray} {l : List Itm} {R : ATab} (h : clashC (rTry R ow l) = 1) : rTry R ow l = 0 := by
  unfold clashC at h
  by_cases h0 : rTry R ow l = 0
  · exact h0
  · rw [if_neg h0] at h
    split at h <;> cases h
theorem rSet_few {R : ATab} {ow : ByteArray} {L : List Itm} (h : rTry R ow L = 0) : (rSet R ow L).2.length ≤ 64 := by
  have := rGo_zero R ow L [] _ h
  unfold rSet
  rw [if_pos h]
  simp only [List.length_append]
  unfold rWant
  simpa using this
theorem fits_want {s : EN} {p : Pay} (h0 : 0 ≤ p.s) (h : eFits s p = true) : 0 ≤ s.want ∧ s.want < 256 ∧ p.seq.1 = s.want := by
  unfold eFits at h
  simp only [Bool.and_eq_true, beq_iff_eq] at h
  have := p.seq_ok h0
  rw [h.2.2] at this
  exact ⟨this.1, this.2, h.2.2⟩
set_option maxRecDepth 100000 in
set_option maxHeartbeats 8000000 in
theorem ydata_any (n : Nat) (g nm : ByteArray) (Y : YW) (s : EN) (p : Pay) (w : World) (h : YAt w n g nm Y s) (hM : MetsAt w p.a p.M) (h0 : 0 ≤ p.s) :
    Calls Tryz.prog 45 #[.pointer (some ⟨n, 0, none⟩), p.val] w (YPost n g nm Y (xData s p) w) := by
  have hW0 := pbox_own w p
  have hP := fun W (ho : Own [] (pbox w p) W) => pbox_cells w p (S := []) (by simp) W ho
  have hC := Lib.hid fun W (ho : Own [] w W) => ycells h W ho
  have hsame := Lib.hid fun W (ho : Own [] w W) => h.same ho
  have cF := fun W (ho : Own [] w W) => yfits_any n g nm Y s p W (h.nil' ho) h0
  have hil : s.items.length ≤ 32 := h.few.1.1
  have cU := fun W (ho : Own [] w W) => rupd_any Y.ia s.items Y.ic p.a p.M p.c Y.ab Y.av s.al noName W ((h.nil' ho).itm) (hM.nil' ho) ((h.nil' ho).tab) (by have := h.few.1.2.1; omega) (by omega)
  have hul := updGo_len (rFind s.al noName) p.M s.items
  have hset := fun W a cap l (ho : Own [] w W) (hR : OutRow w.heap.size W a cap l) (hl : l.length ≤ 32) =>
    h.cells (s' := { s with items := l }) (w' := W.setCell ⟨n, 7, none⟩ (.slice a l.length cap)) (ho.nil.trans ((Own.refl [n] W).setCell (.inl (by simp)) _)) (a := a) (cap := cap) (heap_setCell_same _ _ _ _ _ _ (ho.heap h.row (by simp))) rfl rfl
      ((hR.own' ((Own.refl [n] W).setCell (.inl (by simp)) _) (fun b hb => by have h1 := (fresh_ge hR b hb).1; have h2 := lt_of_heap h.row; simp; omega)).at_ (by omega)) hl (fun b hb => ⟨by have := (fresh_ge hR b hb).2; simpa using this, .inr (fresh_ge hR b hb).1⟩)
  have cK := Lib.hid fun W Y' (s' : EN) (hk : YAt W n g nm Y' s') (h0 : 0 ≤ s'.want) (h1 : s'.want < 256) => ytook_any n g nm Y' s' W hk h0 h1
  have hfw := fits_want (s := s) (p := p) h0
  have hv : p.val = .agg #[.int .u64 p.t, .bool p.h, .int .u64 p.s, .string p.u, .string p.b, .slice p.a p.M.length p.c] := rfl
  unfold YPost xData
  unfold Born2Post at cU
  rw [hv] at cF ⊢
  simp only [pbox] at hW0 hP
  have hS := Lib.hid fun W (ho : Own [] (w.alloc (.cells #[.int .u64 p.t, .bool p.h, .int .u64 p.s, .string p.u, .string p.b, .slice p.a p.M.length p.c] 39)) W) => (show W.cell? ⟨n, 7, none⟩ = some (.slice Y.ia s.items.length Y.ic) ∧ W.cell? ⟨n, 8, none⟩ = some (.pointer (some ⟨Y.ab, 0, none⟩)) ∧ W.cell? ⟨w.heap.size, 5, none⟩ = some (.slice p.a p.M.length p.c) from ⟨(hC.out _ (hW0.trans ho)).1.2.2.2.2.2.2.2.1, (hC.out _ (hW0.trans ho)).1.2.2.2.2.2.2.2.2.1, (hP _ ho).2.2.2.2.2⟩)
  generalize updGo (rFind s.al noName) p.M s.items = up at *
  obtain ⟨up1, up2⟩ := up
  unfold noName at *
  simp only at *
  obtain ⟨⟨c0, c1, c2, c3, c4, c5, c6, c7, c8, c9⟩, hf⟩ := hC.out _ hW0
  obtain ⟨p0, p1, p2, p3, p4, p5⟩ := hP _ (Own.refl _ _)
  cases hon : s.online with
  | false =>
    rw [if_pos rfl]
    rw [hon] at c2
    replace hW0 := Lib.hid hW0
    clear cF cU cK hset hfw hul hil hP h hM hon hv hf
    go_enter Tryz.func45, Tryz.ntmps45
    go_wp2_with fail
    go_ret
    exact ⟨rfl, hsame.out _ hW0.out⟩
  | true =>
    rw [if_neg (by simp)]
    rw [hon] at c2
    have cF1 := cF _ hW0
    cases hft : eFits s p with
    | false =>
      rw [if_pos rfl]
      rw [hft] at cF1
      replace hW0 := Lib.hid hW0
      replace cF1 := Lib.hid cF1
      clear cF cU cK hset hfw hul hil hP h hM hon hft hv hf
      go_enter Tryz.func45, Tryz.ntmps45
      go_wp2_with (go_at_call 71; (with_reducible refine cF1.out.mono ?_); rintro e w2 ⟨rfl, hO2⟩; replace hO2 := Lib.hid (hW0.out.trans hO2))
      go_ret
      exact ⟨rfl, hsame.out _ hO2.out⟩
    | true =>
      rw [if_neg (by simp)]
      rw [hft] at cF1
      replace hfw := Lib.hid (hfw hft)
      have hW0s := Lib.hid hW0
      replace hset := Lib.hid hset
      replace cU := Lib.hid cU
      replace cF1 := Lib.hid cF1
      have hon2 := Lib.hid hon
      have hul2 := Lib.hid (Nat.le_trans hul hil)
      have hnf := Lib.hid hf
      clear cF hP h hM hft hon hv hf hul hil hW0
      by_cases hu : up1 = 1
      · subst hu
        rw [if_neg (by simp)]
        go_enter Tryz.func45, Tryz.ntmps45
        go_wp2_with (go_at_call 71; (with_reducible refine cF1.out.mono ?_); rintro e w2 ⟨rfl, hO2⟩; have hX2 := hW0s.out.trans hO2; have kS := hS.out _ hO2.drew; have cU2 := Lib.hid (cU.out _ hX2.drew); replace hX2 := Lib.hid hX2.drew; replace hO2 := Lib.hid hO2.drew)
        go_region_held3 (fun W => W.cell? ⟨n, 7, none⟩ = some (.slice Y.ia s.items.length Y.ic) ∧ W.cell? ⟨n, 8, none⟩ = some (.pointer (some ⟨Y.ab, 0, none⟩)) ∧ W.cell? ⟨w.heap.size, 5, none⟩ = some (.slice p.a p.M.length p.c))
          (first | exact kS | go_keep | exact kA)
          ((go_at_call 72; (with_reducible refine cU2.out.mono ?_); rintro e w3 ⟨a, cap, rfl, hR3, hO3⟩; have kA := hS.out _ (hO2.out.trans hO3); have hX3 := hX2.out.trans hO3; have fz := (hC.out _ hX3).2 7; obtain ⟨hE3, hL3⟩ := hset.out _ a cap up2 hX3 ⟨hR3.own, fun q hq => Nat.le_trans hX2.out.size (hR3.fresh q hq), hR3.good⟩ hul2.out; have cK3 := Lib.hid (cK.out _ _ _ hE3 hfw.out.1 hfw.out.2.1); replace hL3 := Lib.hid hL3; clear hE3 hR3 hO3 hX3))
        all_goals
          go_wp2_with (go_at_call 73; (with_reducible refine cK3.out.mono ?_); rintro e w5 ⟨⟨v5, rfl⟩, hE5, hL5⟩; replace hE5 := Lib.hid hE5; replace hL5 := Lib.hid hL5)
          go_ret
          have hE6 := hE5.out
          rw [hon2.out] at hE6
          exact ⟨rfl, _, hE6, hL3.out.trans hL5.out⟩
      · rw [if_pos hu]
        have hu1 : (up1 != 1) = true := by simpa using hu
        clear hu cK hset
        go_enter Tryz.func45, Tryz.ntmps45
        go_wp2_with (go_at_call 71; (with_reducible refine cF1.out.mono ?_); rintro e w2 ⟨rfl, hO2⟩; have hX2 := hW0s.out.trans hO2; have kS := hS.out _ hO2.drew; have cU2 := Lib.hid (cU.out _ hX2.drew); replace hX2 := Lib.hid hX2.drew; replace hO2 := Lib.hid hO2.drew)
        go_region_held3 (fun W => W.cell? ⟨n, 7, none⟩ = some (.slice Y.ia s.items.length Y.ic) ∧ W.cell? ⟨n, 8, none⟩ = some (.pointer (some ⟨Y.ab, 0, none⟩)) ∧ W.cell? ⟨w.heap.size, 5, none⟩ = some (.slice p.a p.M.length p.c))
          (first | exact kS | go_keep | exact kA)
          ((go_at_call 72; (with_reducible refine cU2.out.mono ?_); rintro e w3 ⟨a, cap, rfl, hR3, hO3⟩; have kA := hS.out _ (hO2.out.trans hO3); have hX3 := Lib.hid (hX2.out.trans hO3); clear hR3 hO3))
        all_goals
          go_wp2_with fail
          go_ret
          exact ⟨rfl, hsame.out _ hX3.out⟩
end Go.Proofs.YtjfmbjgniajagaaGreatDoor

set_option linter.unusedSimpArgs false
set_option linter.unusedVariables false
namespace Go.Proofs.YtjfmbjgniajagaaGreatDoor
open Go.RowKit

def YD.on (d : YD) (v : Bool) : YD := ⟨⟨d.x.name, v, d.x.items⟩, d.a, d.cap, d.lives⟩
def YD.its (d : YD) (l : List Itm) (a : Option Addr) (cap : Nat) : YD := ⟨⟨d.x.name, d.x.on, l⟩, a, cap, d.lives⟩
def YD.lv (d : YD) (n : Int) : YD := ⟨d.x, d.a, d.cap, n⟩
section
variable {w : World} {gb cp : Nat} {ds : List YD} {i : Nat} {d : YD}
theorem yrow_on (h : Row 91 ydEnc 4 w gb cp ds) (hd : ds[i]? = some d) (v : Bool) : Row 91 ydEnc 4 (w.setCell ⟨gb, i * 4 + 1, none⟩ (.bool v)) gb cp (ds.set i (d.on v)) :=
  row_upd h ydEnc_len 1 (.bool v) hd (fun j hj => by
    match j, hj with
    | 0, _ => simp [ydEnc, YD.on]
    | 1, _ => simp [ydEnc, YD.on]
    | 2, _ => simp [ydEnc, YD.on]
    | 3, _ => simp [ydEnc, YD.on])
theorem yrow_its (h : Row 91 ydEnc 4 w gb cp ds) (hd : ds[i]? = some d) (l : List Itm) (a : Option Addr) (cap : Nat) : Row 91 ydEnc 4 (w.setCell ⟨gb, i * 4 + 2, none⟩ (.slice a l.length cap)) gb cp (ds.set i (d.its l a cap)) :=
  row_upd h ydEnc_len 2 (.slice a l.length cap) hd (fun j hj => by
    match j, hj with
    | 0, _ => simp [ydEnc, YD.its]
    | 1, _ => simp [ydEnc, YD.its]
    | 2, _ => simp [ydEnc, YD.its]
    | 3, _ => simp [ydEnc, YD.its])
theorem yrow_lv (h : Row 91 ydEnc 4 w gb cp ds) (hd : ds[i]? = some d) (n : Int) : Row 91 ydEnc 4 (w.setCell ⟨gb, i * 4 + 3, none⟩ (.int .i64 n)) gb cp (ds.set i (d.lv n)) :=
  row_upd h ydEnc_len 3 (.int .i64 n) hd (fun j hj => by
    match j, hj with
    | 0, _ => simp [ydEnc, YD.lv]
    | 1, _ => simp [ydEnc, YD.lv]
    | 2, _ => simp [ydEnc, YD.lv]
    | 3, _ => simp [ydEnc, YD.lv])
theorem set_get {l : List YD} {i : Nat} {d e : YD} (h : l[i]? = some d) : (l.set i e)[i]? = some e := by
  have := (List.getElem?_eq_some_iff.1 h).1
  simp [this]
end
/-- One device of the row is another. -/
def YDPost (w : World) (gb cp : Nat) (ds : List YD) (i : Nat) (x' : Dev) (w' : World) : Prop :=
  ∃ d' : YD, d'.x = x' ∧ Row 91 ydEnc 4 w' gb cp (ds.set i d') ∧ Own [gb] w w' ∧ ItemsAt w' d'.a x'.items ∧ (∀ b, d'.a.map (·.block) = some b → b < w'.heap.size ∧ ((∃ d, ds[i]? = some d ∧ d.a.map (·.block) = some b) ∨ w.heap.size ≤ b))
set_option maxRecDepth 100000 in
set_option maxHeartbeats 4000000 in
theorem yborn_any (gb cp : Nat) (ds : List YD) (i : Nat) (d : YD) (a : Option Addr) (l : List Itm) (c : Nat) (w : World) (h : Row 91 ydEnc 4 w gb cp ds) (hd : ds[i]? = some d) (hA : ItemsAt w a l) (hag : ∀ b, a.map (·.block) = some b → b ≠ gb) (hl : l.length ≤ 32) :
    Calls Tryz.prog 75 #[.pointer (some ⟨gb, i * 4, none⟩), .slice a l.length c] w fun e w' => (∃ v, e = .returned v) ∧ YDPost w gb cp ds i ⟨d.x.name, true, l⟩ w' := by
  obtain ⟨⟨c0, c1, c2, c3⟩, hf⟩ := yd_cells h hd
  have f1 := hf (i * 4 + 1)
  have hO1 : Own [gb] w (w.setCell ⟨gb, i * 4 + 1, none⟩ (.bool true)) := (Own.refl _ _).setCell (by simp) _
  have hR1 := yrow_on h hd true
  obtain ⟨ao, co, wo, hap, hRo, hOo⟩ := app_copy (w.setCell ⟨gb, i * 4 + 1, none⟩ (.bool true)) a l c (hA.own hO1 (fun b hb => by simpa using hag b hb)) (by omega)
  rw [show (w.setCell ⟨gb, i * 4 + 1, none⟩ (.bool true)).heap.size = w.heap.size by simp] at hap
  have hR2 := hR1.own hOo (by simp)
  obtain ⟨⟨e0, e1, e2, e3⟩, hf2⟩ := yd_cells hR2 (set_get hd)
  have g2 := hf2 (i * 4 + 2)
  have g3 := hf2 (i * 4 + 3)
  have hR3 := yrow_its hR2 (set_get hd) l ao co
  rw [List.set_set] at hR3
  have hend : ∀ n, YDPost w gb cp ds i ⟨d.x.name, true, l⟩ ((wo.setCell ⟨gb, i * 4 + 2, none⟩ (.slice ao l.length co)).setCell ⟨gb, i * 4 + 3, none⟩ (.int .i64 n)) := fun n => by
    have hR4 := yrow_lv hR3 (set_get hd) n
    rw [List.set_set] at hR4
    have hO2 : Own [gb] wo ((wo.setCell ⟨gb, i * 4 + 2, none⟩ (.slice ao l.length co)).setCell ⟨gb, i * 4 + 3, none⟩ (.int .i64 n)) := ((Own.refl _ _).setCell (by simp) _).setCell (by simp) _
    have hgl : gb < w.heap.size := h.lt
    have hfr := fun b hb => fresh_ge hRo b hb
    refine ⟨_, rfl, hR4, (hO1.trans hOo.nil).trans hO2, (hRo.own' hO2 (fun b hb => by have := (hfr b hb).1; have := hO1.size; simp; omega)).at_ (by show l.length ≤ _; omega), fun b hb => ⟨by have := (hfr b hb).2; have := hO2.size; omega, .inr (by have := (hfr b hb).1; have := hO1.size; omega)⟩⟩
  replace hend := Lib.hid hend
  replace hap := Lib.hid hap
  have e3' : wo.cell? ⟨gb, i * 4 + 3, none⟩ = some (.int .i64 d.lives) := e3
  clear h hA hR1 hR2 hR3 hRo hOo hf hf2 hO1
  go_enter Tryz.func75, Tryz.ntmps75
  go_wp2_with (at_builtin; refine wpList_append_of rfl (.tmp 9) (.tmp 10) 42 42 42 rfl rfl rfl rfl hap.out ?_)
  go_end0
  exact ⟨⟨_, rfl⟩, hend.out _⟩
set_option maxRecDepth 100000 in
set_option maxHeartbeats 4000000 in
theorem ytold_any (gb cp : Nat) (ds : List YD) (i : Nat) (d : YD) (a : Option Addr) (l : List Itm) (c : Nat) (w : World) (h : Row 91 ydEnc 4 w gb cp ds) (hd : ds[i]? = some d) (hon : d.x.on = true) (hA : ItemsAt w a l) (hl : l.length ≤ 32) :
    Calls Tryz.prog 78 #[.pointer (some ⟨gb, i * 4, none⟩), .slice a l.length c] w fun e w' => (∃ v, e = .returned v) ∧ YDPost w gb cp ds i ⟨d.x.name, true, l⟩ w' := by
  obtain ⟨⟨c0, c1, c2, c3⟩, hf⟩ := yd_cells h hd
  obtain ⟨ao, co, wo, hap, hRo, hOo⟩ := app_copy w a l c hA (by omega)
  have hR2 := h.own hOo (by simp)
  obtain ⟨⟨e0, e1, e2, e3⟩, hf2⟩ := yd_cells hR2 hd
  have g2 := hf2 (i * 4 + 2)
  have hR3 := yrow_its hR2 hd l ao co
  have hend : YDPost w gb cp ds i ⟨d.x.name, true, l⟩ (wo.setCell ⟨gb, i * 4 + 2, none⟩ (.slice ao l.length co)) := by
    have hO2 : Own [gb] wo (wo.setCell ⟨gb, i * 4 + 2, none⟩ (.slice ao l.length co)) := (Own.refl _ _).setCell (by simp) _
    have hgl : gb < w.heap.size := h.lt
    have hfr := fun b hb => fresh_ge hRo b hb
    refine ⟨d.its l ao co, by unfold YD.its; rw [hon], hR3, hOo.nil.trans hO2, (hRo.own' hO2 (fun b hb => by have := (hfr b hb).1; simp; omega)).at_ (by show l.length ≤ _; omega), fun b hb => ⟨by have := (hfr b hb).2; have := hO2.size; omega, .inr (hfr b hb).1⟩⟩
  replace hend := Lib.hid hend
  replace hap := Lib.hid hap
  rw [hon] at c1
  clear h hA hR2 hR3 hRo hOo hf hf2 hon
  go_enter Tryz.func78, Tryz.ntmps78
  go_wp2_with (at_builtin; refine wpList_append_of rfl (.tmp 12) (.tmp 13) 42 42 42 rfl rfl rfl rfl hap.out ?_)
  go_ret
  exact ⟨⟨_, rfl⟩, hend.out⟩
set_option maxRecDepth 100000 in
set_option maxHeartbeats 4000000 in
theorem ydies_any (gb cp : Nat) (ds : List YD) (i : Nat) (d : YD) (w : World) (h : Row 91 ydEnc 4 w gb cp ds) (hd : ds[i]? = some d) (hon : d.x.on = true) (hA : ItemsAt w d.a d.x.items) (hag : ∀ b, d.a.map (·.block) = some b → b ≠ gb ∧ b < w.heap.size) :
    Calls Tryz.prog 76 #[.pointer (some ⟨gb, i * 4, none⟩)] w fun e w' => (∃ v, e = .returned v) ∧ YDPost w gb cp ds i (dOff d.x) w' := by
  obtain ⟨⟨c0, c1, c2, c3⟩, hf⟩ := yd_cells h hd
  have f1 := hf (i * 4 + 1)
  have hO1 : Own [gb] w (w.setCell ⟨gb, i * 4 + 1, none⟩ (.bool false)) := (Own.refl _ _).setCell (by simp) _
  have hend : YDPost w gb cp ds i (dOff d.x) (w.setCell ⟨gb, i * 4 + 1, none⟩ (.bool false)) :=
    ⟨d.on false, rfl, yrow_on h hd false, hO1, hA.own hO1 (fun b hb => by simpa using (hag b hb).1), fun b hb => ⟨Nat.lt_of_lt_of_le (hag b hb).2 hO1.size, .inl ⟨d, hd, hb⟩⟩⟩
  replace hend := Lib.hid hend
  rw [hon] at c1
  clear h hA hf hon hO1
  go_enter Tryz.func76, Tryz.ntmps76
  go_wp2_with fail
  go_ret
  exact ⟨⟨_, rfl⟩, hend.out⟩
/-- A node of which one device is another. -/
theorem YAt.setD {w w' : World} {n : Nat} {g nm : ByteArray} {Y : YW} {s : EN} (h : YAt w n g nm Y s) {gb cp i : Nat} {x' : Dev} (hdv : Y.dv = .slice (some ⟨gb, 0, none⟩) s.dev.length cp) (hP : YDPost w gb cp Y.ds i x' w') (hl : x'.items.length ≤ 32) :
    ∃ Y', YAt w' n g nm Y' { s with dev := s.dev.set i x' } ∧ YLeft n Y w w' Y' ∧ Y'.dv = Y.dv := by
  obtain ⟨d', rfl, hR, hO, hI, hb⟩ := hP
  have hgb : Y.dv.ownBlock = some gb := by rw [hdv]; rfl
  obtain ⟨hA1, hA2⟩ := h.apart
  have hgf : gb ∈ Y.feet n := YW.feet_dv hgb
  have hA1' := hA1
  unfold YW.feet at hA1'
  rw [hgb] at hA1'
  simp only [List.nodup_cons, List.mem_cons, not_or, Option.toList_some, List.not_mem_nil, not_false_eq_true] at hA1'
  obtain ⟨⟨a1, a2, _⟩, ⟨a3, _⟩, _⟩ := hA1'
  have hne : ∀ x ∈ Y.held, x ∉ [gb] := fun x hx => by simp; rintro rfl; exact hA2 _ hx hgf
  have hheld : ∀ x ∈ ({ Y with ds := Y.ds.set i d' } : YW).held, x ∈ Y.held ∨ (w.heap.size ≤ x ∧ x < w'.heap.size) := fun x hx => by
    unfold YW.held at hx
    simp only [List.mem_append, List.mem_flatMap] at hx
    rcases hx with h1 | h1 | ⟨d, hd, h1⟩
    · exact .inl (by unfold YW.held; simp [h1])
    · exact .inl (by unfold YW.held; simp [h1])
    · rcases List.mem_or_eq_of_mem_set hd with h2 | rfl
      · exact .inl (YW.held_d h2 (mem_blkOf h1))
      · obtain ⟨q1, q2⟩ := hb x (mem_blkOf h1)
        rcases q2 with ⟨d0, hd0, q2⟩ | q2
        · exact .inl (YW.held_d (List.mem_of_getElem? hd0) q2)
        · exact .inr ⟨q2, q1⟩
  have hlen : Y.ds.length = s.dev.length := by rw [← h.dev]; simp
  refine ⟨{ Y with ds := Y.ds.set i d' }, ⟨hO.heap h.row (by simpa using a2), h.tab.own' hO (by simpa using a3) (fun b hb => hne b (YW.held_av hb)), h.itm.own hO (fun b hb => hne b (YW.held_ia hb)), ?_, by rw [List.map_set, h.dev], fun d hd => ?_, ⟨hA1, fun x hx => ?_⟩, fun x hx => ?_, ?_⟩, ⟨hO.mono (fun x hx => by simp at hx; subst hx; exact hgf), fun x hx => .inl hx, fun x hx => ?_⟩, rfl⟩
  · have := Sl.of_row (base := 0) hR ydEnc_len (Nat.zero_le _)
    rw [List.length_set, hlen, ← hdv] at this
    exact this
  · rcases List.mem_or_eq_of_mem_set hd with h2 | rfl
    · exact (h.itd d h2).own hO (fun b hb => hne b (YW.held_d h2 hb))
    · exact hI
  · rcases hheld x hx with h1 | ⟨h1, _⟩
    · exact hA2 x h1
    · exact fun h2 => by have := h.flt x h2; omega
  · rcases hheld x hx with h1 | ⟨_, h1⟩
    · exact Nat.lt_of_lt_of_le (h.lt x h1) hO.size
    · exact h1
  · refine ⟨⟨h.few.1.1, h.few.1.2.1, by simpa using h.few.1.2.2⟩, fun x hx => ?_⟩
    rcases List.mem_or_eq_of_mem_set hx with h2 | rfl
    · exact h.few.2 x h2
    · exact hl
  · rcases hheld x hx with h1 | ⟨h1, _⟩
    · exact .inl h1
    · exact .inr h1
end Go.Proofs.YtjfmbjgniajagaaGreatDoor

set_option linter.unusedSimpArgs false
set_option linter.unusedVariables false
namespace Go.Proofs.YtjfmbjgniajagaaGreatDoor
open Go.RowKit

theorem RTab.blt {w : World} {xb : Nat} {v : Value} {R : ATab} (h : RTab w xb v R) {b : Nat} (hb : v.ownBlock = some b) : b < w.heap.size := by
  rcases h.own.2 with ⟨h1, _⟩ | ⟨g, cap, cur, he, _, hg, _⟩
  · rw [h1] at hb; cases hb
  · rw [he] at hb; cases hb; exact lt_of_heap hg
/-- The table, and cells of the node, have changed. -/
theorem YAt.chg {w w' : World} {n : Nat} {g nm : ByteArray} {Y : YW} {s s' : EN} (h : YAt w n g nm Y s) {ab' : Nat} {v' : Value} (ho : Own [n, Y.ab] w w') (hrow : w'.heap[n]? = some (.cells (yRow g nm { Y with ab := ab', av := v' } s') 69 (0, 0)))
    (hT : RTab w' ab' v' s'.al) (hab : ab' = Y.ab ∨ w.heap.size ≤ ab') (hv : ∀ b, v'.ownBlock = some b → w.heap.size ≤ b) (hi : s'.items = s.items) (hd : s'.dev = s.dev) (hl : s'.al.length ≤ 64) :
    YAt w' n g nm { Y with ab := ab', av := v' } s' ∧ YLeft n Y w w' { Y with ab := ab', av := v' } := by
  obtain ⟨hA1, hA2⟩ := h.apart
  have hA1' := hA1
  unfold YW.feet at hA1'
  simp only [List.nodup_cons, List.mem_cons, not_or] at hA1'
  obtain ⟨⟨a1, a2⟩, a3, a4⟩ := hA1'
  have hn : n ∈ Y.feet n := by unfold YW.feet; simp
  have hab0 : Y.ab ∈ Y.feet n := by unfold YW.feet; simp
  have hne : ∀ x ∈ Y.held, x ∉ [n, Y.ab] := fun x hx => by
    simp only [List.mem_cons, List.not_mem_nil, or_false, not_or]
    exact ⟨fun e => hA2 x hx (e ▸ hn), fun e => hA2 x hx (e ▸ hab0)⟩
  have hnl : n < w.heap.size := h.flt n hn
  have hdvb : ∀ b, Y.dv.ownBlock = some b → b ∉ [n, Y.ab] := fun b hb => by
    simp only [List.mem_cons, List.not_mem_nil, or_false, not_or]
    exact ⟨fun e => a2 (by simp [hb, e]), fun e => a3 (by simp [hb, e])⟩
  have hdvl : ∀ b, Y.dv.ownBlock = some b → b < w.heap.size := fun b hb => (h.dvs.block hb).2
  have hfeet : ∀ x ∈ ({ Y with ab := ab', av := v' } : YW).feet n, x ∈ Y.feet n ∨ w.heap.size ≤ x := fun x hx => by
    unfold YW.feet at hx ⊢
    simp only [List.mem_cons] at hx ⊢
    rcases hx with h1 | h1 | h1
    · exact .inl (.inl h1)
    · rcases hab with h2 | h2
      · exact .inl (.inr (.inl (by rw [h1, h2])))
      · exact .inr (h1 ▸ h2)
    · exact .inl (.inr (.inr h1))
  have hheld : ∀ x ∈ ({ Y with ab := ab', av := v' } : YW).held, x ∈ Y.held ∨ (w.heap.size ≤ x ∧ v'.ownBlock = some x) := fun x hx => by
    unfold YW.held at hx ⊢
    simp only [List.mem_append] at hx ⊢
    rcases hx with h1 | h1
    · exact .inr ⟨hv x (Option.mem_toList.1 h1), Option.mem_toList.1 h1⟩
    · exact .inl (.inr h1)
  refine ⟨⟨hrow, hT, by rw [hi]; exact h.itm.own ho (fun b hb => hne b (YW.held_ia hb)), h.dvs.own ho hdvb, by rw [hd]; exact h.dev, fun d hd => (h.itd d hd).own ho (fun b hb => hne b (YW.held_d (Y := Y) hd hb)), ⟨?_, fun x hx hf => ?_⟩, fun x hx => ?_, ⟨by rw [hi, hd]; exact ⟨h.few.1.1, hl, h.few.1.2.2⟩, by rw [hd]; exact h.few.2⟩⟩, ho.mono (fun x hx => ?_), hfeet, fun x hx => ?_⟩
  · unfold YW.feet
    simp only [List.nodup_cons, List.mem_cons, not_or]
    refine ⟨⟨?_, a2⟩, ?_, a4⟩
    · rcases hab with h2 | h2
      · rw [h2]; exact a1
      · omega
    · rcases hab with h2 | h2
      · rw [h2]; exact a3
      · intro hm
        have := hdvl _ (Option.mem_toList.1 hm)
        omega
  · rcases hheld x hx with h1 | ⟨h1, h2⟩
    · rcases hfeet x hf with h3 | h3
      · exact hA2 x h1 h3
      · have := h.lt x h1; omega
    · unfold YW.feet at hf
      simp only [List.mem_cons] at hf
      rcases hf with h3 | h3 | h3
      · omega
      · exact hT.ne (h3 ▸ h2)
      · have := hdvl x (Option.mem_toList.1 h3); omega
  · rcases hheld x hx with h1 | ⟨_, h1⟩
    · exact Nat.lt_of_lt_of_le (h.lt x h1) ho.size
    · exact hT.blt h1
  · simp only [List.mem_cons, List.not_mem_nil, or_false] at hx
    rcases hx with rfl | rfl
    · exact hn
    · exact hab0
  · rcases hheld x hx with h1 | ⟨h1, _⟩
    · exact .inl h1
    · exact .inr h1
theorem ybirth_end {w w5 w9 : World} {n : Nat} {g nm : ByteArray} {Y : YW} {s : EN} (h : YAt w n g nm Y s) (hO : Own [] w w5) {a : Option Addr} {cap : Nat} {l : List Itm} (hR : OutRow w.heap.size w5 a cap l) (hl : l.length ≤ 32) {T : Nat} {v' : Value} {R' : ATab} (hT : RTab w5 T v' R') (hTge : w.heap.size ≤ T) (hv : ∀ b, v'.ownBlock = some b → w.heap.size ≤ b)
    (haT : ∀ b, a.map (·.block) = some b → b ≠ T) (hR64 : R'.length ≤ 64) {bd q : Int} (hrow : w9.heap[n]? = some (.cells (yRow g nm ⟨T, v', a, cap, .slice none 0 0, []⟩ ⟨true, bd, q, true, false, l, R', []⟩) 69 (0, 0))) (hO9 : Own [n] w5 w9) :
    ∃ Y', YAt w9 n g nm Y' ⟨true, bd, q, true, false, l, R', []⟩ ∧ YLeft n Y w w9 Y' := by
  have hnl : n < w.heap.size := lt_of_heap h.row
  have hn : n ∈ Y.feet n := by unfold YW.feet; simp
  have hfr := fun b hb => fresh_ge hR b hb
  have hheld : ∀ x ∈ (⟨T, v', a, cap, .slice none 0 0, []⟩ : YW).held, v'.ownBlock = some x ∨ a.map (·.block) = some x := fun x hx => by
    unfold YW.held at hx
    simp only [List.flatMap_nil, List.append_nil, List.mem_append] at hx
    rcases hx with h1 | h1
    · exact .inl (Option.mem_toList.1 h1)
    · exact .inr (mem_blkOf h1)
  have hge : ∀ x ∈ (⟨T, v', a, cap, .slice none 0 0, []⟩ : YW).held, w.heap.size ≤ x := fun x hx => by
    rcases hheld x hx with h1 | h1
    · exact hv x h1
    · exact (hfr x h1).1
  refine ⟨_, ⟨hrow, hT.own' hO9 (by simp; omega) (fun b hb => by have := hv b hb; simp; omega), (hR.own' hO9 (fun b hb => by have := (hfr b hb).1; simp; omega)).at_ (by omega), Sl.nil _ _ _, rfl, by simp, ⟨?_, fun x hx hf => ?_⟩, fun x hx => ?_, ⟨⟨hl, hR64, by simp⟩, by simp⟩⟩, hO.nil.trans (hO9.mono (fun x hx => by simp at hx; subst hx; exact hn)), fun x hx => ?_, fun x hx => .inr (hge x hx)⟩
  · unfold YW.feet
    simp [Value.ownBlock]
    omega
  · unfold YW.feet at hf
    simp only [List.mem_cons, Value.ownBlock, Option.toList_none, List.not_mem_nil, or_false] at hf
    rcases hf with h3 | h3
    · have := hge x hx; omega
    · rcases hheld x hx with h1 | h1
      · exact hT.ne (h3 ▸ h1)
      · exact haT x h1 h3
  · rcases hheld x hx with h1 | h1
    · exact Nat.lt_of_lt_of_le (hT.blt h1) hO9.size
    · exact Nat.lt_of_lt_of_le (hfr x h1).2 hO9.size
  · unfold YW.feet at hx
    simp only [List.mem_cons, Value.ownBlock, Option.toList_none, List.not_mem_nil, or_false] at hx
    rcases hx with h1 | h1
    · exact .inl (h1 ▸ hn)
    · exact .inr (h1 ▸ hTge)
theorem ynew_tab (w4 : World) : RTab ((w4.alloc (.cells #[.slice none 0 0] 65)).alloc (.cells #[.string ⟨#[]⟩, .string ⟨#[]⟩, .bool false, .int .i64 0, .int .i64 0, .bool false, .bool false, .slice none 0 0, .pointer (some ⟨w4.heap.size, 0, none⟩), .slice none 0 0] 69)) w4.heap.size (.slice none 0 0) [] ∧ ((w4.alloc (.cells #[.slice none 0 0] 65)).alloc (.cells #[.string ⟨#[]⟩, .string ⟨#[]⟩, .bool false, .int .i64 0, .int .i64 0, .bool false, .bool false, .slice none 0 0, .pointer (some ⟨w4.heap.size, 0, none⟩), .slice none 0 0] 69)).cell? ⟨w4.heap.size + 1, 8, none⟩ = some (.pointer (some ⟨w4.heap.size, 0, none⟩)) ∧ Own [] w4 ((w4.alloc (.cells #[.slice none 0 0] 65)).alloc (.cells #[.string ⟨#[]⟩, .string ⟨#[]⟩, .bool false, .int .i64 0, .int .i64 0, .bool false, .bool false, .slice none 0 0, .pointer (some ⟨w4.heap.size, 0, none⟩), .slice none 0 0] 69)) := by
  have h1 := heap_alloc_new (w4.alloc (.cells #[.slice none 0 0] 65)) (.cells #[.string ⟨#[]⟩, .string ⟨#[]⟩, .bool false, .int .i64 0, .int .i64 0, .bool false, .bool false, .slice none 0 0, .pointer (some ⟨w4.heap.size, 0, none⟩), .slice none 0 0] 69)
  rw [show (w4.alloc (.cells #[.slice none 0 0] 65)).heap.size = w4.heap.size + 1 by simp] at h1
  exact ⟨⟨((Own.refl [] _).alloc _).heap (heap_alloc_new w4 _) (by simp), ⟨by simp [rowOf], .inl ⟨rfl, rfl⟩⟩, by simp [Value.ownBlock]⟩, cell_of_row _ _ 8 _ _ _ h1, ((Own.refl [] w4).alloc _).alloc _⟩
set_option maxRecDepth 100000 in
set_option maxHeartbeats 8000000 in
theorem ybirth_any (n : Nat) (g nm : ByteArray) (Y : YW) (s : EN) (p : Pay) (w : World) (h : YAt w n g nm Y s) (hM : MetsAt w p.a p.M) (h0 : 0 ≤ p.s) :
    Calls Tryz.prog 43 #[.pointer (some ⟨n, 0, none⟩), p.val] w (YPost n g nm Y (xBirth s p) w) := by
  have hW0 := pbox_own w p
  have hP := Lib.hid fun W (ho : Own [] (pbox w p) W) => pbox_cells w p (S := []) (by simp) W ho
  have cB := rpbd_any p (pbox w p) (hM.nil' hW0)
  have cS := fun W => rpseq_any p W h0
  have cO := fun W (ho : Own [] w W) => rborn_any p.a p.M p.c W (hM.nil' ho)
  have hsq := p.seq_ok h0
  have hbl := bornL_le p.M
  have hsame := Lib.hid fun W (ho : Own [] w W) => h.same ho
  have hC := Lib.hid fun W (ho : Own [] w W) => ycells h W ho
  unfold YPost xBirth
  unfold Born2Post at cO
  have hv : p.val = .agg #[.int .u64 p.t, .bool p.h, .int .u64 p.s, .string p.u, .string p.b, .slice p.a p.M.length p.c] := rfl
  rw [hv] at cB cS ⊢
  obtain ⟨q0, q1, q2, q3, q4, q5⟩ := hP.out _ (Own.refl _ _)
  simp only [pbox] at hW0 hP cB q0 q1 q2 q3 q4 q5
  have hset := fun T a cap W (ho : Own [] w W) (hA : ItemsAt W a (bornL p.M).2) (hT : RTab W T (.slice none 0 0) []) (hax : ∀ q, a = some q → q.block ≠ T) => rset_any T (.slice none 0 0) [] noName a (bornL p.M).2 cap W hT (by simp) hA (fun _ => hax)
  have hcode := fun nb T a cap W (hc : W.cell? ⟨nb, 8, none⟩ = some (.pointer (some ⟨T, 0, none⟩))) (hT : RTab W T (.slice none 0 0) []) (hA : ItemsAt W a (bornL p.M).2) => ycode_any nb T (.slice none 0 0) [] noName a (bornL p.M).2 cap W hc hT (by simp) hA
  have hz : clashC (rTry [] noName (bornL p.M).2) = 1 → (rSet [] noName (bornL p.M).2).1 = 0 ∧ (rSet [] noName (bornL p.M).2).2.length ≤ 64 := fun hh => ⟨by unfold rSet; rw [if_pos (rSet_code hh)], rSet_few (rSet_code hh)⟩
  generalize p.bd = bd at *
  generalize p.seq = sq at *
  generalize bornL p.M = bo at *
  obtain ⟨bd1, bd2⟩ := bd
  obtain ⟨sq1, sq2⟩ := sq
  obtain ⟨bo1, bo2⟩ := bo
  simp only at *
  replace cB := Lib.hid cB
  replace cS := Lib.hid cS
  replace cO := Lib.hid cO
  have hW0s := Lib.hid hW0
  clear hM h0 hv
  cases bd2 with
  | false =>
    rw [if_pos rfl]
    clear hz hset hcode hsq hbl h hW0
    go_enter Tryz.func43, Tryz.ntmps43
    go_wp2_with (go_at_call 66; (with_reducible refine cB.out.mono ?_); rintro e w2 ⟨rfl, hO2⟩; have hX2 := Lib.hid (hW0s.out.trans hO2); clear hO2)
    go_ret
    exact ⟨rfl, hsame.out _ hX2.out⟩
  | true =>
    rw [if_neg (by simp)]
    cases sq2 with
    | false =>
      rw [if_pos rfl]
      clear hz hset hcode hsq hbl h hW0
      go_enter Tryz.func43, Tryz.ntmps43
      go_wp2_with (first
        | (go_at_call 66; (with_reducible refine cB.out.mono ?_); rintro e w2 ⟨rfl, hO2⟩; have hX2 := hW0s.out.trans hO2; obtain ⟨r0, r1, r2, r3, r4, r5⟩ := hP.out _ hO2; have cS2 := Lib.hid (cS.out w2); replace hX2 := Lib.hid hX2; replace hO2 := Lib.hid hO2)
        | (go_at_call 67; (with_reducible refine cS2.out.mono ?_); rintro e w3 ⟨rfl, hO3⟩; have hX3 := Lib.hid (hX2.out.trans hO3); clear hO3))
      go_ret
      exact ⟨rfl, hsame.out _ hX3.out⟩
    | true =>
      rw [if_neg (by simp)]
      have htm : (sq1 + 1).tmod 256 = (sq1 + 1) % 256 := Int.tmod_eq_emod_of_nonneg (by omega)
      have hwr : IntKind.i64.wrap (sq1 + 1) = sq1 + 1 := IntWalk.i64_in _ (by omega)
      by_cases hb : bo1 = 1
      · subst hb
        rw [if_neg (by simp)]
        by_cases hc : clashC (rTry [] noName bo2) = 1
        · rw [if_neg (by simp [hc])]
          obtain ⟨hz1, hz2⟩ := hz hc
          have hcb : (clashC (rTry [] noName bo2) != 1) = false := by simp [hc]
          generalize rSet [] noName bo2 = rs at *
          obtain ⟨rs1, rs2⟩ := rs
          simp only at hz1 hz2 hset ⊢
          subst hz1
          have hnl : n < w.heap.size := lt_of_heap h.row
          replace h := Lib.hid h
          replace hset := Lib.hid hset
          replace hcode := Lib.hid hcode
          have hbl2 := Lib.hid hbl
          replace hz2 := Lib.hid hz2
          clear hz hc hW0 hbl
          unfold noName at *
          go_enter Tryz.func43, Tryz.ntmps43
          go_wp2_with (first
            | (go_at_call 66; (with_reducible refine cB.out.mono ?_); rintro e w2 ⟨rfl, hO2⟩; have hX2 := hW0s.out.trans hO2; obtain ⟨r0, r1, r2, r3, r4, r5⟩ := hP.out _ hO2; have cS2 := Lib.hid (cS.out w2); replace hX2 := Lib.hid hX2; replace hO2 := Lib.hid hO2)
            | (go_at_call 67; (with_reducible refine cS2.out.mono ?_); rintro e w3 ⟨rfl, hO3⟩; have hX3 := hX2.out.trans hO3; obtain ⟨t0, t1, t2, t3, t4, t5⟩ := hP.out _ (hO2.out.trans hO3); have cO3 := Lib.hid (cO.out _ hX3); replace hX3 := Lib.hid hX3; clear hO3)
            | (go_at_call 68; (with_reducible refine cO3.out.mono ?_); rintro e w4 ⟨a, cap, rfl, hR4, hO4⟩; have hX4 := hX3.out.trans hO4; have hR4' : OutRow w.heap.size w4 a cap bo2 := ⟨hR4.own, fun q hq => Nat.le_trans hX3.out.size (hR4.fresh q hq), hR4.good⟩; have haf := (fun b hb => (fresh_ge hR4 b hb).2 : ∀ b, a.map (·.block) = some b → b < w4.heap.size); replace hX4 := Lib.hid hX4; replace hR4' := Lib.hid hR4'; replace haf := Lib.hid haf; clear hR4 hO4)
            | (go_at_call 69; obtain ⟨hT6, hc6, hO6⟩ := ynew_tab w4; (with_reducible refine (hcode.out _ _ a cap _ hc6 hT6 ((hR4'.out.nil' hO6).at_ (by have := hbl2.out; omega))).mono ?_); rintro e w7 ⟨rfl, hO7⟩; have hT7 := Lib.hid (hT6.nil' hO7); have hX7 := hX4.out.trans (hO6.trans hO7); have hR7 := Lib.hid (hR4'.out.nil' (hO6.trans hO7)); replace hX7 := Lib.hid hX7; clear hT6 hc6 hO6 hO7)
            | (go_at_call 70; (with_reducible refine (hset.out _ a cap _ hX7.out (hR7.out.at_ (by have := hbl2.out; omega)) hT7.out (fun q hq => Nat.ne_of_lt (haf.out _ (by rw [hq]; simp)))).mono ?_); rintro e w8 ⟨rfl, v8, hT8, hO8, hv8⟩; have hX8 : Own [] w w8 := hX7.out.trans' hO8 (fun x hx => .inr (by simp at hx; subst hx; exact hX4.out.size)); obtain ⟨_, hf8⟩ := hC.out _ hX8; have f2 := hf8 2; have f3 := hf8 3; have f4 := hf8 4; have f5 := hf8 5; have f6 := hf8 6; have f7 := hf8 7; have f8 := hf8 8; have f9 := hf8 9; have hR8 := Lib.hid (hR7.out.own' hO8 (fun b hb => by have := haf.out b hb; simp; omega)); replace hT8 := Lib.hid hT8; have hv8' := Lib.hid (fun b hb => Nat.le_trans hX7.out.size (hv8 rfl b hb)); replace hX8 := Lib.hid hX8; clear hO8 hv8 hf8))
          go_ret
          refine ⟨rfl, ybirth_end h.out hX8.out hR8.out hbl2.out hT8.out hX4.out.size hv8'.out (fun b hb => Nat.ne_of_lt (haf.out b hb)) hz2.out (heap_setCell_same _ _ _ _ _ _ (heap_setCell_same _ _ _ _ _ _ (heap_setCell_same _ _ _ _ _ _ (heap_setCell_same _ _ _ _ _ _ (heap_setCell_same _ _ _ _ _ _ (heap_setCell_same _ _ _ _ _ _ (heap_setCell_same _ _ _ _ _ _ (heap_setCell_same _ _ _ _ _ _ (hX8.out.heap h.out.row (by simp)))))))))) ?_⟩
          exact (((((((((Own.refl [n] w8).setCell (.inl (by simp)) _).setCell (.inl (by simp)) _).setCell (.inl (by simp)) _).setCell (.inl (by simp)) _).setCell (.inl (by simp)) _).setCell (.inl (by simp)) _).setCell (.inl (by simp)) _).setCell (.inl (by simp)) _)
        · rw [if_pos hc]
          have hcb : (clashC (rTry [] noName bo2) != 1) = true := by simpa using hc
          replace hcode := Lib.hid hcode
          clear hz hc hW0 hset h
          unfold noName at *
          go_enter Tryz.func43, Tryz.ntmps43
          go_wp2_with (first
            | (go_at_call 66; (with_reducible refine cB.out.mono ?_); rintro e w2 ⟨rfl, hO2⟩; have hX2 := hW0s.out.trans hO2; obtain ⟨r0, r1, r2, r3, r4, r5⟩ := hP.out _ hO2; have cS2 := Lib.hid (cS.out w2); replace hX2 := Lib.hid hX2; replace hO2 := Lib.hid hO2)
            | (go_at_call 67; (with_reducible refine cS2.out.mono ?_); rintro e w3 ⟨rfl, hO3⟩; have hX3 := hX2.out.trans hO3; obtain ⟨t0, t1, t2, t3, t4, t5⟩ := hP.out _ (hO2.out.trans hO3); have cO3 := Lib.hid (cO.out _ hX3); replace hX3 := Lib.hid hX3; clear hO3)
            | (go_at_call 68; (with_reducible refine cO3.out.mono ?_); rintro e w4 ⟨a, cap, rfl, hR4, hO4⟩; have hX4 := hX3.out.trans hO4; have hR4' : OutRow w.heap.size w4 a cap bo2 := ⟨hR4.own, fun q hq => Nat.le_trans hX3.out.size (hR4.fresh q hq), hR4.good⟩; have haf := (fun b hb => (fresh_ge hR4 b hb).2 : ∀ b, a.map (·.block) = some b → b < w4.heap.size); replace hX4 := Lib.hid hX4; replace hR4' := Lib.hid hR4'; replace haf := Lib.hid haf; clear hR4 hO4)
            | (go_at_call 69; obtain ⟨hT6, hc6, hO6⟩ := ynew_tab w4; (with_reducible refine (hcode.out _ _ a cap _ hc6 hT6 ((hR4'.out.nil' hO6).at_ (by omega))).mono ?_); rintro e w7 ⟨rfl, hO7⟩; have hT7 := Lib.hid (hT6.nil' hO7); have hX7 := hX4.out.trans (hO6.trans hO7); have hR7 := Lib.hid (hR4'.out.nil' (hO6.trans hO7)); replace hX7 := Lib.hid hX7; clear hT6 hc6 hO6 hO7))
          go_ret
          exact ⟨rfl, hsame.out _ hX7.out⟩
      · rw [if_pos hb]
        have hbb : (bo1 != 1) = true := by simpa using hb
        clear hz hset hcode hbl h hW0 hb
        go_enter Tryz.func43, Tryz.ntmps43
        go_wp2_with (first
            | (go_at_call 66; (with_reducible refine cB.out.mono ?_); rintro e w2 ⟨rfl, hO2⟩; have hX2 := hW0s.out.trans hO2; obtain ⟨r0, r1, r2, r3, r4, r5⟩ := hP.out _ hO2; have cS2 := Lib.hid (cS.out w2); replace hX2 := Lib.hid hX2; replace hO2 := Lib.hid hO2)
            | (go_at_call 67; (with_reducible refine cS2.out.mono ?_); rintro e w3 ⟨rfl, hO3⟩; have hX3 := hX2.out.trans hO3; obtain ⟨t0, t1, t2, t3, t4, t5⟩ := hP.out _ (hO2.out.trans hO3); have cO3 := Lib.hid (cO.out _ hX3); replace hX3 := Lib.hid hX3; clear hO3)
            | (go_at_call 68; (with_reducible refine cO3.out.mono ?_); rintro e w4 ⟨a, cap, rfl, hR4, hO4⟩; have hX4 := hX3.out.trans hO4; have hR4' : OutRow w.heap.size w4 a cap bo2 := ⟨hR4.own, fun q hq => Nat.le_trans hX3.out.size (hR4.fresh q hq), hR4.good⟩; have haf := (fun b hb => (fresh_ge hR4 b hb).2 : ∀ b, a.map (·.block) = some b → b < w4.heap.size); replace hX4 := Lib.hid hX4; replace hR4' := Lib.hid hR4'; replace haf := Lib.hid haf; clear hR4 hO4))
        go_ret
        exact ⟨rfl, hsame.out _ hX4.out⟩
end Go.Proofs.YtjfmbjgniajagaaGreatDoor
