/- The document's node (chapter 33): View. -/
import Derived.Test.YtjfmbjgniajagaaGreatDoorEdgeDocA
import Derived.Test.YtjfmbjgniajagaaGreatDoorEdgeSame
import Derived.Test.YtjfmbjgniajagaaGreatDoorSteps
import Derived.Deep.LoopGhost
import Derived.Deep.RegionLaw
import Derived.Deep.RegionHeld
import Derived.Deep.Cut
import Derived.Deep.CutRange
set_option linter.unusedSimpArgs false
set_option linter.unusedVariables false
namespace Go.Proofs.YtjfmbjgniajagaaGreatDoor
open Go.RowKit

section
variable {P : Program} {l : List Oper} {Q : Exit → Act → World → Prop} {md : Region.Mode} {S : World → Prop}
/-- wpAnyH_take, the operation read off the list. -/
theorem takeHL {i : Nat} {oi : Oper} {v : Value} {fuel : Nat} {listed : Array Bool} {a : Act} {w : World} (hi : l[i]? = some oi)
    (hs : Region.noSelect l.toArray = true) (hf : Region.free md l.toArray listed i = true) (hr : (Region.ready md l.toArray listed).contains i = true)
    (hQ : ∀ c a w, Q (.panic c) (a.put oi.dst v) w → Q (.panic c) a w) (hy : YieldsIf P l.toArray S oi v a) (hS : S w)
    (h : wpAnyH P md l.toArray Q S fuel (listed.setIfInBounds i true) (a.put oi.dst v) w) : wpAnyH P md l.toArray Q S (fuel + 1) listed a w :=
  wpAnyH_take (by simpa using hi) hs hf hr hQ hy hS h
/-- AllReadyH.cons, the operation read off the list. -/
theorem consHL {fuel : Nat} {listed : Array Bool} {a : Act} {w : World} {i : Nat} {o : Oper} {rs : List Nat} (ho : l[i]? = some o)
    (h : ∀ K' : Act → World → Prop, Shut (∀ a w, S w → (S w → wpAnyH P md l.toArray Q S fuel (listed.setIfInBounds i true) a w) → K' a w) → if Region.wanted o (yielded l.toArray a.tmps) = true then Oper.wp P o a w K' Q else K' (a.put o.dst undef) w)
    (hs : AllReadyH P md l.toArray Q S fuel listed a w rs) : AllReadyH P md l.toArray Q S fuel listed a w (i :: rs) :=
  AllReadyH.cons (by simpa using ho) h hs
end
def ydv (d : YD) : DV := ⟨d.x.name, d.x.on, d.a, d.x.items.length, d.cap⟩
theorem vw_start (w : World) (r : Array Value) : (((w.alloc (.cells #[.string ⟨#[]⟩, .string ⟨#[]⟩, .bool false, .int .i64 0, .int .i64 0, .bool false, .slice none 0 0, .slice none 0 0] 45)).alloc (.cells r 45)).drew).heap[w.heap.size + 1]? = some (.cells r 45 (0, 0)) ∧ (((w.alloc (.cells #[.string ⟨#[]⟩, .string ⟨#[]⟩, .bool false, .int .i64 0, .int .i64 0, .bool false, .slice none 0 0, .slice none 0 0] 45)).alloc (.cells r 45)).drew).heap[w.heap.size]? = some (.cells #[.string ⟨#[]⟩, .string ⟨#[]⟩, .bool false, .int .i64 0, .int .i64 0, .bool false, .slice none 0 0, .slice none 0 0] 45 (0, 0)) ∧ Own [] w (((w.alloc (.cells #[.string ⟨#[]⟩, .string ⟨#[]⟩, .bool false, .int .i64 0, .int .i64 0, .bool false, .slice none 0 0, .slice none 0 0] 45)).alloc (.cells r 45)).drew) ∧ (((w.alloc (.cells #[.string ⟨#[]⟩, .string ⟨#[]⟩, .bool false, .int .i64 0, .int .i64 0, .bool false, .slice none 0 0, .slice none 0 0] 45)).alloc (.cells r 45)).drew).heap.size = w.heap.size + 2 := by
  have h1 := heap_alloc_new (w.alloc (.cells #[.string ⟨#[]⟩, .string ⟨#[]⟩, .bool false, .int .i64 0, .int .i64 0, .bool false, .slice none 0 0, .slice none 0 0] 45)) (.cells r 45)
  rw [show (w.alloc (.cells #[.string ⟨#[]⟩, .string ⟨#[]⟩, .bool false, .int .i64 0, .int .i64 0, .bool false, .slice none 0 0, .slice none 0 0] 45)).heap.size = w.heap.size + 1 by simp] at h1
  exact ⟨h1, ((Own.refl [] _).alloc _).drew.heap (heap_alloc_new w _) (by simp), (((Own.refl [] w).alloc _).alloc _).drew, by simp⟩
theorem ydv_at {w : World} {n : Nat} {g nm : ByteArray} {Y : YW} {s : EN} (h : YAt w n g nm Y s) {va : Option Addr} {vc : Nat} {B : Nat} (hS : Sl 56 vEnc 3 B w (.slice va s.dev.length vc) (Y.ds.map ydv)) : VAt w s.items s.dev Y.ia va (Y.ds.map ydv) := by
  have hl : Y.ds.length = s.dev.length := by rw [← h.dev]; simp
  refine ⟨h.itm, h.few.1.1, ?_, by simp [hl], h.few.1.2.2, fun i v x hv hx => ?_⟩
  · rcases hS.form with ⟨h4, h5⟩ | ⟨gb, cp, h4, _, hR⟩
    · rw [h5]; exact RowsAt.empty _ _
    · simp only [Value.slice.injEq] at h4
      obtain ⟨rfl, _, _⟩ := h4
      exact RowsAt.of_row hR vEnc_len (by have := h.few.1.2.2; simp [hl]; omega) (fun _ _ => trivial)
  · rw [List.getElem?_map] at hv
    obtain ⟨d, hd, rfl⟩ := Option.map_eq_some_iff.1 hv
    have hx' : s.dev[i]? = some d.x := by rw [← h.dev, List.getElem?_map, hd]; rfl
    rw [hx] at hx'
    cases hx'
    have hm := List.mem_of_getElem? hd
    exact ⟨rfl, rfl, rfl, h.few.2 _ (List.mem_of_getElem? hx), h.itd d hm⟩
/-- What the loop has made by round k. -/
def VI (w wr : World) (g nm : ByteArray) (Y : YW) (s : EN) (on : Bool) (bv nx : Int) (k : Nat) (vv : Value) : Prop :=
  Sl 56 vEnc 3 w.heap.size wr vv ((Y.ds.take k).map ydv) ∧ (∀ b, vv.ownBlock = some b → w.heap.size + 2 ≤ b) ∧ wr.heap[w.heap.size + 1]? = some (.cells #[.string g, .string nm, .bool on, .int .i64 bv, .int .i64 nx, .bool s.pending, .slice Y.ia s.items.length Y.ic, vv] 45 (0, 0)) ∧ wr.heap[w.heap.size]? = some (.cells #[.string ⟨#[]⟩, .string ⟨#[]⟩, .bool false, .int .i64 0, .int .i64 0, .bool false, .slice none 0 0, .slice none 0 0] 45 (0, 0)) ∧ Own [] w wr ∧ w.heap.size + 2 ≤ wr.heap.size
theorem VI.start {w w' : World} {g nm : ByteArray} {Y : YW} {s : EN} {on : Bool} {bv nx : Int} (s1 : w'.heap[w.heap.size + 1]? = some (.cells #[.string g, .string nm, .bool on, .int .i64 bv, .int .i64 nx, .bool s.pending, .slice Y.ia s.items.length Y.ic, .slice none 0 0] 45 (0, 0))) (s2 : w'.heap[w.heap.size]? = some (.cells #[.string ⟨#[]⟩, .string ⟨#[]⟩, .bool false, .int .i64 0, .int .i64 0, .bool false, .slice none 0 0, .slice none 0 0] 45 (0, 0))) (s3 : Own [] w w') (s4 : w'.heap.size = w.heap.size + 2) : VI w w' g nm Y s on bv nx 0 (.slice none 0 0) :=
  ⟨Sl.nil _ _ _, fun b hb => by simp [Value.ownBlock] at hb, s1, s2, s3, Nat.le_of_eq s4.symm⟩
theorem VI.push {w wr : World} {n : Nat} {g nm : ByteArray} {Y : YW} {s : EN} {on : Bool} {bv nx : Int} {k : Nat} {vv : Value} {da : Option Addr} {dc : Nat} (h : YAt w n g nm Y s) (hdv : Y.dv = .slice da s.dev.length dc) (hI : VI w wr g nm Y s on bv nx k vv) (hk : k < s.dev.length) :
    ∃ sa sc gb d, vv = .slice sa k sc ∧ da = some ⟨gb, 0, none⟩ ∧ (∀ W, Own [] w W → W.cell? ⟨n, 9, none⟩ = some (.slice (some ⟨gb, 0, none⟩) s.dev.length dc) ∧ W.cell? ⟨gb, k * 4, none⟩ = some (.string d.x.name) ∧ W.cell? ⟨gb, k * 4 + 1, none⟩ = some (.bool d.x.on) ∧ W.cell? ⟨gb, k * 4 + 2, none⟩ = some (.slice d.a d.x.items.length d.cap)) ∧ wr.cell? ⟨w.heap.size + 1, 7, none⟩ = some (.slice sa k sc) ∧ (wr.alloc (.cells #[.string d.x.name, .bool d.x.on, .slice d.a d.x.items.length d.cap] 56)).cell? ⟨w.heap.size + 1, 7, none⟩ = some (.slice sa k sc) ∧
      Own [] w ((wr.alloc (.cells #[.string d.x.name, .bool d.x.on, .slice d.a d.x.items.length d.cap] 56)).drew) ∧ Reads vEnc ((wr.alloc (.cells #[.string d.x.name, .bool d.x.on, .slice d.a d.x.items.length d.cap] 56)).drew) (.slice (some ⟨wr.heap.size, 0, none⟩) 1 1) [ydv d] ∧ Sl 56 vEnc 3 w.heap.size ((wr.alloc (.cells #[.string d.x.name, .bool d.x.on, .slice d.a d.x.items.length d.cap] 56)).drew) (.slice sa k sc) ((Y.ds.take k).map ydv) ∧
      (((Y.ds.take k).map ydv).length + [ydv d].length) * 48 ≤ 140737488355328 ∧ ((Y.ds.take k).map ydv).length + [ydv d].length ≤ maxLen ∧
      ∀ va w5, Sl 56 vEnc 3 w.heap.size w5 va ((Y.ds.take k).map ydv ++ [ydv d]) → Own [] w w5 → (∀ b, va.ownBlock = some b → (Value.slice sa k sc).ownBlock = some b ∨ ((wr.alloc (.cells #[.string d.x.name, .bool d.x.on, .slice d.a d.x.items.length d.cap] 56)).drew).heap.size ≤ b) → Own (Value.slice sa k sc).ownBlock.toList ((wr.alloc (.cells #[.string d.x.name, .bool d.x.on, .slice d.a d.x.items.length d.cap] 56)).drew) w5 →
        ∃ a5 c5, va = .slice a5 (k + 1) c5 ∧ w5.cell? ⟨w.heap.size + 1, 7, none⟩ = some (.slice sa k sc) ∧ w5.frozen? ⟨w.heap.size + 1, 7, none⟩ = false ∧ Own [] w (w5.setCell ⟨w.heap.size + 1, 7, none⟩ (.slice a5 (k + 1) c5)) ∧ VI w (w5.setCell ⟨w.heap.size + 1, 7, none⟩ (.slice a5 (k + 1) c5)) g nm Y s on bv nx (k + 1) (.slice a5 (k + 1) c5) := by
  obtain ⟨hS, hvb, hr, hz, hO, hsz⟩ := hI
  have hYl : Y.ds.length = s.dev.length := by rw [← h.dev]; simp
  have hVl : ((Y.ds.take k).map ydv).length = k := by simp; omega
  have hfw := h.few.1.2.2
  obtain ⟨gb, cp, d, e1, hd, hx, hR⟩ := yd_at h hk
  rw [hdv] at e1
  cases e1
  have hSK : ∀ W, Own [] w W → (W.cell? ⟨n, 9, none⟩ = some (.slice (some ⟨gb, 0, none⟩) s.dev.length dc) ∧ W.cell? ⟨gb, k * 4, none⟩ = some (.string d.x.name) ∧ W.cell? ⟨gb, k * 4 + 1, none⟩ = some (.bool d.x.on) ∧ W.cell? ⟨gb, k * 4 + 2, none⟩ = some (.slice d.a d.x.items.length d.cap)) := fun W ho => by
    obtain ⟨gb', cp', d', e1', hd', hx', hR'⟩ := yd_at (h.nil' ho) hk
    rw [hdv] at e1'
    cases e1'
    rw [hd] at hd'
    cases hd'
    obtain ⟨⟨_, _, _, _, _, _, _, _, _, c9'⟩, _⟩ := ycells h _ ho
    obtain ⟨⟨b0', b1', b2', b3'⟩, _⟩ := yd_cells hR' hd
    exact ⟨by rw [c9', hdv], b0', b1', b2'⟩
  obtain ⟨sa, sc, rfl⟩ := hS.sl
  rw [hVl] at hS hr hvb
  have htk : (Y.ds.take (k + 1)).map ydv = (Y.ds.take k).map ydv ++ [ydv d] := by rw [List.take_add_one, hd]; simp
  have hOw2 : Own [] wr ((wr.alloc (.cells #[.string d.x.name, .bool d.x.on, .slice d.a d.x.items.length d.cap] 56)).drew) := ((Own.refl [] wr).alloc _).drew
  have hra := hOw2.heap hr (by simp)
  have hza := hOw2.heap hz (by simp)
  have hszb : ((wr.alloc (.cells #[.string d.x.name, .bool d.x.on, .slice d.a d.x.items.length d.cap] 56)).drew).heap.size = wr.heap.size + 1 := by simp
  refine ⟨sa, sc, gb, d, by rw [hVl], rfl, hSK, cell_of_row wr _ 7 _ _ _ hr, (show ((wr.alloc (.cells #[.string d.x.name, .bool d.x.on, .slice d.a d.x.items.length d.cap] 56)).drew).cell? ⟨w.heap.size + 1, 7, none⟩ = some (.slice sa k sc) from cell_of_row _ _ 7 _ _ _ hra), hO.trans hOw2, (Reads.new wr _ 1).nil' (Own.refl [] _).drew, hS.nil' hOw2, by rw [hVl]; simp; omega, by rw [hVl]; unfold maxLen; simp; omega, fun va w5 hS5 hO5 hg5 hX5 => ?_⟩
  obtain ⟨a5, c5, hva⟩ := hS5.sl
  have hl5 : ((Y.ds.take k).map ydv ++ [ydv d]).length = k + 1 := by rw [List.length_append, hVl]; rfl
  rw [hl5] at hva
  subst hva
  have hnb := fun b (hb : (Value.slice sa k sc).ownBlock = some b) => hvb b hb
  have hr5 := hX5.heap hra (fun hx => by have := hnb _ (Option.mem_toList.1 hx); omega)
  have hz5 := hX5.heap hza (fun hx => by have := hnb _ (Option.mem_toList.1 hx); omega)
  have hOt : Own [w.heap.size + 1] w5 (w5.setCell ⟨w.heap.size + 1, 7, none⟩ (.slice a5 (k + 1) c5)) := (Own.refl _ _).setCell (.inl (by simp)) _
  have hvb5 : ∀ b, (Value.slice a5 (k + 1) c5).ownBlock = some b → w.heap.size + 2 ≤ b := fun b hb => by
    rcases hg5 b hb with h1 | h1
    · exact hvb b h1
    · omega
  have hS6 := hS5.own hOt (fun b hb => by have := hvb5 b hb; simp; omega)
  rw [← htk] at hS6
  have hO6 : Own [] w (w5.setCell ⟨w.heap.size + 1, 7, none⟩ (.slice a5 (k + 1) c5)) := hO5.trans' hOt (fun x hx => .inr (by simp at hx; omega))
  refine ⟨a5, c5, rfl, cell_of_row w5 _ 7 _ _ _ hr5, frozen_of_row _ _ _ _ _ hr5, hO6, hS6, hvb5, heap_setCell_same _ _ 7 _ _ (.slice a5 (k + 1) c5) hr5, hOt.heap hz5 (by simp), hO6, ?_⟩
  have h1 := hX5.size
  have h2 := hOt.size
  omega
theorem VI.stop {w wr : World} {n : Nat} {g nm : ByteArray} {Y : YW} {s : EN} {on : Bool} {bv nx : Int} {vv : Value} (h : YAt w n g nm Y s) (hI : VI w wr g nm Y s on bv nx s.dev.length vv) :
    ∃ sa sc, vv = .slice sa s.dev.length sc ∧ wr.heap[w.heap.size + 1]? = some (.cells #[.string g, .string nm, .bool on, .int .i64 bv, .int .i64 nx, .bool s.pending, .slice Y.ia s.items.length Y.ic, .slice sa s.dev.length sc] 45 (0, 0)) ∧ wr.heap[w.heap.size]? = some (.cells #[.string ⟨#[]⟩, .string ⟨#[]⟩, .bool false, .int .i64 0, .int .i64 0, .bool false, .slice none 0 0, .slice none 0 0] 45 (0, 0)) ∧ ∀ w', Own [w.heap.size] wr w' → VAt w' s.items s.dev Y.ia sa (Y.ds.map ydv) ∧ Own [] w w' := by
  obtain ⟨hS, hvb, hr, hz, hO, hsz⟩ := hI
  have hYl : Y.ds.length = s.dev.length := by rw [← h.dev]; simp
  rw [← hYl, List.take_length] at hS
  obtain ⟨sa, sc, rfl⟩ := hS.sl
  rw [List.length_map, hYl] at hS hr hvb
  refine ⟨sa, sc, by rw [List.length_map, hYl], hr, hz, fun w' ho => ?_⟩
  have hOw : Own [] w w' := hO.trans' ho (fun x hx => .inr (by simp at hx; omega))
  exact ⟨ydv_at (h.nil' hOw) (hS.own ho (fun b hb => by have := hvb b hb; simp; omega)), hOw⟩
/-- What stands ahead of the loop. -/
def VP (w wr : World) (g nm : ByteArray) (Y : YW) (s : EN) (on : Bool) (bv nx : Int) : Prop :=
  wr.heap[w.heap.size + 1]? = some (.cells #[.string g, .string nm, .bool on, .int .i64 bv, .int .i64 nx, .bool s.pending, .slice Y.ia s.items.length Y.ic, .slice none 0 0] 45 (0, 0)) ∧ wr.heap[w.heap.size]? = some (.cells #[.string ⟨#[]⟩, .string ⟨#[]⟩, .bool false, .int .i64 0, .int .i64 0, .bool false, .slice none 0 0, .slice none 0 0] 45 (0, 0)) ∧ Own [] w wr ∧ wr.heap.size = w.heap.size + 2
theorem VP.want {w wr : World} {g nm : ByteArray} {Y : YW} {s : EN} {on : Bool} {bv : Int} (nx : Int) (h : VP w wr g nm Y s on bv 0) : VP w (wr.setCell ⟨w.heap.size + 1, 4, none⟩ (.int .i64 nx)) g nm Y s on bv nx := by
  obtain ⟨h1, h2, h3, h4⟩ := h
  have hOt : Own [w.heap.size + 1] wr (wr.setCell ⟨w.heap.size + 1, 4, none⟩ (.int .i64 nx)) := (Own.refl _ _).setCell (.inl (by simp)) _
  exact ⟨heap_setCell_same _ _ 4 _ _ (.int .i64 nx) h1, hOt.heap h2 (by simp), h3.trans' hOt (fun x hx => .inr (by simp at hx; omega)), by simp [h4]⟩
set_option maxRecDepth 100000 in
set_option maxHeartbeats 16000000 in
theorem yview_any (n : Nat) (g nm : ByteArray) (Y : YW) (s : EN) (w : World) (h : YAt w n g nm Y s) :
    Calls Tryz.prog 20 #[.pointer (some ⟨n, 0, none⟩)] w fun e w' => ∃ cap va vc V, e = .returned (.agg #[.string g, .string nm, .bool s.online, .int .i64 (bdV s), .int .i64 (nextV s), .bool s.pending, .slice Y.ia s.items.length cap, .slice va s.dev.length vc]) ∧ VAt w' s.items s.dev Y.ia va V ∧ Own [] w w' := by
  have hC := fun W (ho : Own [] w W) => (ycells h W ho).1
  have hln : n < w.heap.size := lt_of_heap h.row
  have hd4 : s.dev.length ≤ 4 := h.few.1.2.2
  obtain ⟨da, dc, hdv⟩ := h.dvs.sl
  have hlen : Y.ds.length = s.dev.length := by rw [← h.dev]; simp
  rw [hlen] at hdv
  rw [hdv] at hC
  obtain ⟨c0, c1, c2, c3, c4, c5, c6, c7, c8, c9⟩ := hC _ (Own.refl _ _)
  have hCx := Lib.hid hC
  have hbT : s.online = true → bdV s = s.bd := fun hon => by unfold bdV; rw [if_pos hon]
  have hbF : s.online = false → bdV s = 0 := fun hon => by unfold bdV; rw [if_neg (by simp [hon])]
  have hnT : s.begun = true → nextV s = s.want := fun hon => by unfold nextV; rw [if_pos hon]
  have hnF : s.begun = false → nextV s = 0 := fun hon => by unfold nextV; rw [if_neg (by simp [hon])]
  generalize bdV s = bv at *
  generalize nextV s = nx at *
  replace hbT := Lib.hid hbT
  replace hbF := Lib.hid hbF
  replace hnT := Lib.hid hnT
  replace hnF := Lib.hid hnF
  replace hdv := Lib.hid hdv
  have hh := Lib.hid h
  clear h hlen hC
  go_enter Tryz.func20, Tryz.ntmps20
  go_wp2_with fail
  go_region
  go_upto_if 29 with fail
  go_cut [] from 16 to 34 (fun wx => Aside (VP w wx g nm Y s s.online bv 0))
  case first =>
    rcases Bool.eq_false_or_eq_true s.online with hon | hon
    · obtain rfl := hbT.out hon
      simp only [hon]
      go_wp2_with fail
      go_meet
      show VP w _ g nm Y s s.online s.bd 0
      rw [hon]
      exact vw_start w _
    · obtain rfl := hbF.out hon
      simp only [hon]
      go_wp2_with fail
      go_meet
      show VP w _ g nm Y s s.online 0 0
      rw [hon]
      exact vw_start w _
  case rest =>
  have hP : VP w wc g nm Y s s.online bv 0 := hcut
  clear c0 c1 c2 c3 c4 c5 c6 c7 c8 c9 hcut
  obtain ⟨c0, c1, c2, c3, c4, c5, c6, c7, c8, c9⟩ := hCx.out _ hP.2.2.1
  obtain ⟨⟨e0, e1, e2, e3, e4, e5, e6, e7⟩, f0, f1, f2, f3, f4, f5, f6, f7⟩ := blk8 hP.1
  have hP1 := Lib.hid (hP.want nx)
  replace hP := Lib.hid hP
  go_upto_if 38 with fail
  go_cut [] from 38 to 43 (fun wx => Aside (VP w wx g nm Y s s.online bv nx))
  case first =>
    rcases Bool.eq_false_or_eq_true s.begun with hon | hon
    · obtain rfl := hnT.out hon
      simp only [hon]
      go_wp2_with fail
      go_meet
      exact hP1.out
    · obtain rfl := hnF.out hon
      simp only [hon]
      go_wp2_with fail
      go_meet
      exact hP.out
  case rest =>
  have hI0 := Lib.hid (VI.start (on := s.online) (bv := bv) (nx := nx) hcut.1 hcut.2.1 hcut.2.2.1 hcut.2.2.2)
  have h9 := Lib.hid fun W ho => (hCx.out W ho).2.2.2.2.2.2.2.2.2
  clear c0 c1 c2 c3 c4 c5 c6 c7 c8 c9 e0 e1 e2 e3 e4 e5 e6 e7 f0 f1 f2 f3 f4 f5 f6 f7 hcut hP hP1 hCx hbT hbF hnT hnF
  go_wp2_with fail
  go_loopg [4] s.dev.length (fun m s4 wr => ∃ (k : Nat) (vv : Value), k ≤ s.dev.length ∧ m = s.dev.length - k ∧ s4 = .int .i64 k ∧ Aside (VI w wr g nm Y s s.online bv nx k vv))
  case atStart => exact ⟨0, .slice none 0 0, Nat.zero_le _, rfl, rfl, hI0.out⟩
  case round =>
    obtain ⟨k, vv, hk, rfl, rfl, hI⟩ := hrel
    have hI : VI w wr g nm Y s s.online bv nx k vv := hI
    have hO := hI.2.2.2.2.1
    have c9 := h9.out _ hO
    have k0 : (0 : Int) ≤ k := by omega
    clear hI0
    by_cases hlt : k < s.dev.length
    · obtain ⟨sa, sc, gb, d, rfl, rfl, hSK, q7, k7, hOb, hRb, hSb, hl1, hl2, hpush⟩ := hI.push hh.out hdv.out hlt
      have k1 : (k : Int) < (s.dev.length : Int) := by omega
      replace hSK := Lib.hid hSK
      replace hOb := Lib.hid hOb
      replace hRb := Lib.hid hRb
      replace hSb := Lib.hid hSb
      replace hl1 := Lib.hid hl1
      replace hl2 := Lib.hid hl2
      replace hpush := Lib.hid hpush
      replace hO := Lib.hid hO
      clear hI hh hdv h9
      go_wp2_with fail
      clear c9
      refine wp_region_held_drew (S := fun W => W.cell? ⟨n, 9, none⟩ = some (.slice (some ⟨gb, 0, none⟩) s.dev.length dc) ∧ W.cell? ⟨gb, k * 4, none⟩ = some (.string d.x.name) ∧ W.cell? ⟨gb, k * 4 + 1, none⟩ = some (.bool d.x.on) ∧ W.cell? ⟨gb, k * 4 + 2, none⟩ = some (.slice d.a d.x.items.length d.cap)) (by kernel_rfl) (hSK.out _ hO.out.drew) (fun hHeld => ?_)
      refine takeHL (i := 0) (v := ?v1) rfl (by kernel_rfl) (by kernel_rfl) (by kernel_rfl) (fun _ _ _ h => h) (Or.inl ⟨by rfl, ?hy1⟩) hHeld ?rs1
      case hy1 => (intro W hSw; (try dsimp only at hSw); obtain ⟨s0, s1, s2, s3⟩ := hSw; go_simp; try with_reducible rfl)
      try simp only [Act.put, List.setIfInBounds_toArray, List.set_cons_zero, List.set_cons_succ]
      refine takeHL (i := 2) (v := ?v2) rfl (by kernel_rfl) (by kernel_rfl) (by kernel_rfl) (fun _ _ _ h => h) (Or.inl ⟨by rfl, ?hy2⟩) hHeld ?rs2
      case hy2 => (intro W hSw; (try dsimp only at hSw); obtain ⟨s0, s1, s2, s3⟩ := hSw; go_simp; try with_reducible rfl)
      try simp only [Act.put, List.setIfInBounds_toArray, List.set_cons_zero, List.set_cons_succ]
      refine takeHL (i := 3) (v := ?v3) rfl (by kernel_rfl) (by kernel_rfl) (by kernel_rfl) (fun _ _ _ h => h) (Or.inl ⟨by rfl, ?hy3⟩) hHeld ?rs3
      case hy3 => (intro W hSw; (try dsimp only at hSw); obtain ⟨s0, s1, s2, s3⟩ := hSw; go_simp; try with_reducible rfl)
      try simp only [Act.put, List.setIfInBounds_toArray, List.set_cons_zero, List.set_cons_succ]
      refine takeHL (i := 4) (v := ?v4) rfl (by kernel_rfl) (by kernel_rfl) (by kernel_rfl) (fun _ _ _ h => h) (Or.inl ⟨by rfl, ?hy4⟩) hHeld ?rs4
      case hy4 => (intro W hSw; (try dsimp only at hSw); obtain ⟨s0, s1, s2, s3⟩ := hSw; go_simp; try with_reducible rfl)
      try simp only [Act.put, List.setIfInBounds_toArray, List.set_cons_zero, List.set_cons_succ]
      refine takeHL (i := 5) (v := ?v5) rfl (by kernel_rfl) (by kernel_rfl) (by kernel_rfl) (fun _ _ _ h => h) (Or.inl ⟨by rfl, ?hy5⟩) hHeld ?rs5
      case hy5 => (intro W hSw; (try dsimp only at hSw); obtain ⟨s0, s1, s2, s3⟩ := hSw; go_simp; try with_reducible rfl)
      try simp only [Act.put, List.setIfInBounds_toArray, List.set_cons_zero, List.set_cons_succ]
      refine takeHL (i := 6) (v := ?v6) rfl (by kernel_rfl) (by kernel_rfl) (by kernel_rfl) (fun _ _ _ h => h) (Or.inl ⟨by rfl, ?hy6⟩) hHeld ?rs6
      case hy6 => (intro W hSw; (try dsimp only at hSw); obtain ⟨s0, s1, s2, s3⟩ := hSw; go_simp; try with_reducible rfl)
      try simp only [Act.put, List.setIfInBounds_toArray, List.set_cons_zero, List.set_cons_succ]
      refine takeHL (i := 7) (v := ?v7) rfl (by kernel_rfl) (by kernel_rfl) (by kernel_rfl) (fun _ _ _ h => h) (Or.inl ⟨by rfl, ?hy7⟩) hHeld ?rs7
      case hy7 => (intro W hSw; (try dsimp only at hSw); obtain ⟨s0, s1, s2, s3⟩ := hSw; go_simp; try with_reducible rfl)
      try simp only [Act.put, List.setIfInBounds_toArray, List.set_cons_zero, List.set_cons_succ]
      refine takeHL (i := 8) (v := ?v8) rfl (by kernel_rfl) (by kernel_rfl) (by kernel_rfl) (fun _ _ _ h => h) (Or.inl ⟨by rfl, ?hy8⟩) hHeld ?rs8
      case hy8 => (intro W hSw; (try dsimp only at hSw); obtain ⟨s0, s1, s2, s3⟩ := hSw; go_simp; try with_reducible rfl)
      try simp only [Act.put, List.setIfInBounds_toArray, List.set_cons_zero, List.set_cons_succ]
      refine takeHL (i := 9) (v := ?v9) rfl (by kernel_rfl) (by kernel_rfl) (by kernel_rfl) (fun _ _ _ h => h) (Or.inl ⟨by rfl, ?hy9⟩) hHeld ?rs9
      case hy9 => (intro W hSw; (try dsimp only at hSw); obtain ⟨s0, s1, s2, s3⟩ := hSw; go_simp; try with_reducible rfl)
      try simp only [Act.put, List.setIfInBounds_toArray, List.set_cons_zero, List.set_cons_succ]
      refine wpAnyH_ready (rs := [1, 10]) (by kernel_rfl) (by simp) ?_
      refine consHL (i := 1) rfl (fun K hK => ?_) ?_
      · go_simp
        refine hK.out _ _ (by first | exact hSK.out _ hO6.out | exact hSK.out _ hO5.out | exact hSK.out _ hOb.out | exact hSK.out _ hO.out.drew) (fun hHeld => ?_)
        clear hK K
        try simp only [Act.put, List.setIfInBounds_toArray, List.set_cons_zero, List.set_cons_succ]
        refine wpAnyH_ready (rs := [10]) (by kernel_rfl) (by simp) ?_
        refine consHL (i := 10) rfl (fun K hK => ?_) ?_
        · go_simp
          refine hK.out _ _ (by first | exact hSK.out _ hO6.out | exact hSK.out _ hO5.out | exact hSK.out _ hOb.out | exact hSK.out _ hO.out.drew) (fun hHeld => ?_)
          clear hK K
          try simp only [Act.put, List.setIfInBounds_toArray, List.set_cons_zero, List.set_cons_succ]
          refine wpAnyH_ready (rs := [11]) (by kernel_rfl) (by simp) ?_
          refine consHL (i := 11) rfl (fun K hK => ?_) ?_
          · (refine stepAppend rfl (.tmp 54) (.tmp 63) (by rfl) vElem hOb.out (by rfl) hSb.out (by rfl) hRb.out hl1.out hl2.out ?_); intro va w5 hS5 hO5 hg5 hX5; obtain ⟨a5, c5, rfl, kC, f5, hO6, hI6⟩ := hpush.out va w5 hS5 hO5 hg5 hX5; replace hO5 := Lib.hid hO5; replace hO6 := Lib.hid hO6; replace hI6 := Lib.hid hI6; clear hS5 hg5 hX5; (try go_simp)
            refine hK.out _ _ (by first | exact hSK.out _ hO6.out | exact hSK.out _ hO5.out | exact hSK.out _ hOb.out | exact hSK.out _ hO.out.drew) (fun hHeld => ?_)
            clear hK K
            try simp only [Act.put, List.setIfInBounds_toArray, List.set_cons_zero, List.set_cons_succ]
            refine takeHL (i := 12) (v := ?v10) rfl (by kernel_rfl) (by kernel_rfl) (by kernel_rfl) (fun _ _ _ h => h) (Or.inl ⟨by rfl, ?hy10⟩) hHeld ?rs10
            case hy10 => (intro W hSw; (try dsimp only at hSw); obtain ⟨s0, s1, s2, s3⟩ := hSw; go_simp; try with_reducible rfl)
            try simp only [Act.put, List.setIfInBounds_toArray, List.set_cons_zero, List.set_cons_succ]
            refine wpAnyH_ready (rs := [13]) (by kernel_rfl) (by simp) ?_
            refine consHL (i := 13) rfl (fun K hK => ?_) ?_
            · go_simp
              refine hK.out _ _ (by first | exact hSK.out _ hO6.out | exact hSK.out _ hO5.out | exact hSK.out _ hOb.out | exact hSK.out _ hO.out.drew) (fun hHeld => ?_)
              clear hK K
              try simp only [Act.put, List.setIfInBounds_toArray, List.set_cons_zero, List.set_cons_succ]
              refine wpAnyH_done (by kernel_rfl) ?_ _
              clear hHeld hSK q7 k7 hOb hRb hSb hpush hO hO5
              go_wp2_with fail
              go_roundg (s.dev.length - (k + 1))
              case rel => exact ⟨k + 1, _, by omega, rfl, by go_num, hI6.out⟩
              case measure => omega
            exact AllReadyH.nil
          exact AllReadyH.nil
        exact AllReadyH.nil
      refine consHL (i := 10) rfl (fun K hK => ?_) ?_
      · go_simp
        refine hK.out _ _ (by first | exact hSK.out _ hO6.out | exact hSK.out _ hO5.out | exact hSK.out _ hOb.out | exact hSK.out _ hO.out.drew) (fun hHeld => ?_)
        clear hK K
        try simp only [Act.put, List.setIfInBounds_toArray, List.set_cons_zero, List.set_cons_succ]
        refine wpAnyH_ready (rs := [1]) (by kernel_rfl) (by simp) ?_
        refine consHL (i := 1) rfl (fun K hK => ?_) ?_
        · go_simp
          refine hK.out _ _ (by first | exact hSK.out _ hO6.out | exact hSK.out _ hO5.out | exact hSK.out _ hOb.out | exact hSK.out _ hO.out.drew) (fun hHeld => ?_)
          clear hK K
          try simp only [Act.put, List.setIfInBounds_toArray, List.set_cons_zero, List.set_cons_succ]
          refine wpAnyH_ready (rs := [11]) (by kernel_rfl) (by simp) ?_
          refine consHL (i := 11) rfl (fun K hK => ?_) ?_
          · (refine stepAppend rfl (.tmp 54) (.tmp 63) (by rfl) vElem hOb.out (by rfl) hSb.out (by rfl) hRb.out hl1.out hl2.out ?_); intro va w5 hS5 hO5 hg5 hX5; obtain ⟨a5, c5, rfl, kC, f5, hO6, hI6⟩ := hpush.out va w5 hS5 hO5 hg5 hX5; replace hO5 := Lib.hid hO5; replace hO6 := Lib.hid hO6; replace hI6 := Lib.hid hI6; clear hS5 hg5 hX5; (try go_simp)
            refine hK.out _ _ (by first | exact hSK.out _ hO6.out | exact hSK.out _ hO5.out | exact hSK.out _ hOb.out | exact hSK.out _ hO.out.drew) (fun hHeld => ?_)
            clear hK K
            try simp only [Act.put, List.setIfInBounds_toArray, List.set_cons_zero, List.set_cons_succ]
            refine takeHL (i := 12) (v := ?v11) rfl (by kernel_rfl) (by kernel_rfl) (by kernel_rfl) (fun _ _ _ h => h) (Or.inl ⟨by rfl, ?hy11⟩) hHeld ?rs11
            case hy11 => (intro W hSw; (try dsimp only at hSw); obtain ⟨s0, s1, s2, s3⟩ := hSw; go_simp; try with_reducible rfl)
            try simp only [Act.put, List.setIfInBounds_toArray, List.set_cons_zero, List.set_cons_succ]
            refine wpAnyH_ready (rs := [13]) (by kernel_rfl) (by simp) ?_
            refine consHL (i := 13) rfl (fun K hK => ?_) ?_
            · go_simp
              refine hK.out _ _ (by first | exact hSK.out _ hO6.out | exact hSK.out _ hO5.out | exact hSK.out _ hOb.out | exact hSK.out _ hO.out.drew) (fun hHeld => ?_)
              clear hK K
              try simp only [Act.put, List.setIfInBounds_toArray, List.set_cons_zero, List.set_cons_succ]
              refine wpAnyH_done (by kernel_rfl) ?_ _
              clear hHeld hSK q7 k7 hOb hRb hSb hpush hO hO5
              go_wp2_with fail
              go_roundg (s.dev.length - (k + 1))
              case rel => exact ⟨k + 1, _, by omega, rfl, by go_num, hI6.out⟩
              case measure => omega
            exact AllReadyH.nil
          exact AllReadyH.nil
        exact AllReadyH.nil
      exact AllReadyH.nil
    · obtain rfl : k = s.dev.length := by omega
      obtain ⟨sa, sc, rfl, hr, hz, hfin⟩ := hI.stop hh.out
      obtain ⟨⟨e0, e1, e2, e3, e4, e5, e6, e7⟩, f0, f1, f2, f3, f4, f5, f6, f7⟩ := blk8 hr
      obtain ⟨⟨d0, d1, d2, d3, d4, d5, d6, d7⟩, z0, z1, z2, z3, z4, z5, z6, z7⟩ := blk8 hz
      replace hfin := Lib.hid hfin
      clear hr hz hI hlt k0 hk
      go_wp2_with fail
      refine bodyPost_ret (v := .agg #[.string g, .string nm, .bool s.online, .int .i64 bv, .int .i64 nx, .bool s.pending, .slice Y.ia s.items.length Y.ic, .slice sa s.dev.length sc]) (by simp [results, Tryz.results20, go_sem, d0, d1, d2, d3, d4, d5, d6, d7]) rfl ⟨_, sa, sc, _, rfl, hfin.out _ ?_⟩
      repeat (first | refine Own.setCell ?_ (.inl (by simp)) _ | with_reducible exact Own.refl _ _)
end Go.Proofs.YtjfmbjgniajagaaGreatDoor
