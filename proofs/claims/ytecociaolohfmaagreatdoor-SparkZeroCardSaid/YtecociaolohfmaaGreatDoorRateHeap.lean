/- Package rate: Pop, Push, and the library's heap over marks. -/
import Derived.Test.YtecociaolohfmaaGreatDoorRate
namespace Go.Proofs.YtecociaolohfmaaGreatDoor
open Go.RowKit

structure RateAt (w : World) (rb : Nat) (gap : Int) (v : Value) (ms : List Mk) : Prop where
  row : w.heap[rb]? = some (.cells #[.int .i64 gap, v, .bool true] 171 (0, 0))
  marks : Marks w v ms
  ne : v.ownBlock ≠ some rb
  apart : ∀ x ∈ ms, x.blk ≠ rb

def PopPost (w : World) (rb : Nat) (gap : Int) (v : Value) (ms : List Mk) (e : Ending) (w' : World) : Prop :=
  ∃ v' x, e = .returned (.iface 205 x) ∧ RateAt w' rb gap v' ms.dropLast ∧ v'.ownBlock = v.ownBlock ∧ Own [rb] w w'

theorem pop_any (rb : Nat) (gap : Int) (v : Value) (ms : List Mk) (w : World) (h : RateAt w rb gap v ms) (hn : 0 < ms.length) (hl : ms.length ≤ 1000) :
    Calls Tryz.prog 286 #[.pointer (some ⟨rb, 1, none⟩)] w (PopPost w rb gap v ms) := by
  obtain ⟨g, cap, cur, rfl, hg, hnc, hs, hc⟩ := h.marks.shape hn
  have hrow := h.row
  have c1 : w.cell? ⟨rb, 1, none⟩ = some (.slice (some ⟨g, 0, none⟩) ms.length cap) := cell_of_row w rb 1 _ _ _ hrow
  have f1 : w.frozen? ⟨rb, 1, none⟩ = false := frozen_of_row w rb _ _ _ hrow
  have cl := (cell_of_row w g (ms.length - 1) _ _ _ hg).trans (hc (ms.length - 1) (by omega))
  have hcapm : cap ≤ maxLen := by
    obtain ⟨_, h2 | ⟨g', cap', cur', h3, _, h4, _, h5, _⟩⟩ := h.marks.own
    · simp at h2
    · simp only [Value.slice.injEq] at h3
      obtain ⟨_, _, h6⟩ := h3
      omega
  have hfin : RateAt (w.setCell ⟨rb, 1, none⟩ (.slice (some ⟨g, 0, none⟩) (ms.length - 1) cap)) rb gap (.slice (some ⟨g, 0, none⟩) (ms.length - 1) cap) ms.dropLast := by
    have hne := h.ne
    simp only [Value.ownBlock, ne_eq, Option.some.injEq] at hne
    have hO : Own [rb] w (w.setCell ⟨rb, 1, none⟩ (.slice (some ⟨g, 0, none⟩) (ms.length - 1) cap)) := (Own.refl _ _).setCell (by simp) _
    refine ⟨heap_setCell_same _ _ _ _ _ _ hrow, ⟨?_, fun x hx => ?_, fun x hx => h.marks.apart x ((List.dropLast_sublist ms).subset hx)⟩, by simpa [Value.ownBlock] using hne, fun x hx => h.apart x ((List.dropLast_sublist ms).subset hx)⟩
    · refine ⟨by simp, .inr ⟨g, cap, cur, by simp, Nat.zero_le _, hO.heap hg (by simpa using hne), by simp; omega, hcapm, by simpa using hs, ?_⟩⟩
      apply List.ext_getElem?
      intro k
      by_cases hk : k < ms.length - 1
      · rw [List.getElem?_take_of_lt (by simpa using hk)]
        simp only [Array.getElem?_toList, hc k (by omega), List.getElem?_map, List.getElem?_dropLast, hk, if_true]
        simp [List.getD, List.getElem?_eq_getElem (show k < ms.length by omega)]
      · rw [List.getElem?_eq_none (by simp; omega), List.getElem?_eq_none (by simp; omega)]
    · have hx' := (List.dropLast_sublist ms).subset hx
      exact ⟨hO.heap (h.marks.marks x hx').1 (by simpa using h.apart x hx'), (h.marks.marks x hx').2⟩
  replace hfin := Lib.hid hfin
  obtain ⟨n, hN⟩ : ∃ n, ms.length = n + 1 := ⟨ms.length - 1, by omega⟩
  rw [hN] at c1 cl hfin hl hnc ⊢
  simp only [Nat.add_sub_cancel] at cl hfin
  generalize (ms.getD n Mk.dflt) = xl at cl
  have cl : w.cell? ⟨g, n, none⟩ = some (.pointer (some ⟨xl.blk, 0, none⟩)) := cl
  clear h hrow hg hs hc hN hn
  unfold maxLen at hcapm
  go_enter Tryz.func286, Tryz.ntmps286
  go_wp2_with fail
  go_ret
  exact ⟨_, _, rfl, hfin.out, rfl, (Own.refl _ _).setCell (by simp) _⟩

def PushPost (w : World) (rb : Nat) (gap : Int) (v : Value) (ms : List Mk) (x : Mk) (e : Ending) (w' : World) : Prop :=
  ∃ v', e = .returned (.tuple #[]) ∧ RateAt w' rb gap v' (ms ++ [x]) ∧ (v'.ownBlock = v.ownBlock ∨ ∃ g, v'.ownBlock = some g ∧ w.heap.size ≤ g) ∧ Own (rb :: v.ownBlock.toList) w w'

theorem Own.grown {S : List Nat} {a b c : World} {row : Option Nat} (h : Own S a b) (hg : b.grownBy c row) (hr : ∀ k, row = some k → k ∈ S ∨ a.heap.size ≤ k) : Own S a c :=
  ⟨hg.os.trans h.os, hg.tape.trans h.tape, hg.output.trans h.output, Nat.le_trans h.size hg.size, fun k hk hn => by
    rw [hg.block k (Nat.lt_of_lt_of_le hk h.size) (fun e => by rcases hr k e.symm with h1 | h1; exact hn h1; omega)]
    exact h.block k hk hn⟩
theorem push_fin {w w1 : World} {rb g cap n H : Nat} {gap : Int} {v : Value} {ms : List Mk} {x : Mk} {C : Obj} (h : RateAt w rb gap v ms)
    (hx : w.heap[x.blk]? = some (.cells #[.string x.key, .int .i64 x.at_] 207 (0, 0))) (hxb : 0 ≤ x.at_ ∧ x.at_ ≤ 1073741824) (hx1 : x.blk ≠ rb) (hx2 : v.ownBlock ≠ some x.blk)
    (hn : ms.length = n) (hH : w.heap.size = H) (hown : w1.ownsRow 0 205 1 (.slice (some ⟨g, 0, none⟩) (n + 1) cap) (n + 1) (ms.map Mk.ptr ++ [.pointer (some ⟨x.blk, 0, none⟩)]))
    (hgrow : (w.alloc C).drew.grownBy w1 v.ownBlock) (hat : v.ownBlock = some g ∨ g = H + 1) :
    PushPost w rb gap v ms x (.returned (.tuple #[])) (w1.setCell ⟨rb, 1, none⟩ (.slice (some ⟨g, 0, none⟩) (n + 1) cap)) := by
  have hO1 : Own (rb :: v.ownBlock.toList) w w1 := (((Own.refl _ w).alloc C).drew).grown hgrow (by intro k hk; rw [hk]; simp)
  have hO2 : Own v.ownBlock.toList w w1 := (((Own.refl _ w).alloc C).drew).grown hgrow (by intro k hk; rw [hk]; simp)
  have hrow1 := hO2.heap h.row (by simpa using h.ne)
  have hgrb : g ≠ rb := by
    rcases hat with h1 | h1
    · intro e; exact h.ne (by rw [h1, e])
    · have := lt_of_heap h.row; omega
  have hall : ∀ y ∈ ms ++ [x], w.heap[y.blk]? = some (.cells #[.string y.key, .int .i64 y.at_] 207 (0, 0)) ∧ (0 ≤ y.at_ ∧ y.at_ ≤ 1073741824) ∧ y.blk ≠ rb ∧ v.ownBlock ≠ some y.blk := by
    intro y hy
    rcases List.mem_append.1 hy with h1 | h1
    · exact ⟨(h.marks.marks y h1).1, (h.marks.marks y h1).2, h.apart y h1, h.marks.apart y h1⟩
    · rw [List.mem_singleton.1 h1]; exact ⟨hx, hxb, hx1, hx2⟩
  have hO3 : Own [rb] w1 (w1.setCell ⟨rb, 1, none⟩ (.slice (some ⟨g, 0, none⟩) (n + 1) cap)) := (Own.refl _ _).setCell (by simp) _
  refine ⟨_, rfl, ⟨heap_setCell_same _ _ _ _ _ _ hrow1, ⟨?_, fun y hy => ?_, fun y hy => ?_⟩, by simpa [Value.ownBlock] using hgrb, fun y hy => (hall y hy).2.2.1⟩, ?_, hO1.trans (hO3.mono (by simp))⟩
  · have e : (ms ++ [x]).length = n + 1 := by simp [hn]
    have e2 : (ms ++ [x]).map Mk.ptr = ms.map Mk.ptr ++ [.pointer (some ⟨x.blk, 0, none⟩)] := by simp [Mk.ptr]
    rw [e, e2]
    obtain ⟨h1, h2 | ⟨g', cap', cur', h3, h4, h5, h6⟩⟩ := hown
    · exact ⟨h1, .inl h2⟩
    · simp only [Value.slice.injEq, Option.some.injEq, Addr.mk.injEq, and_true, true_and] at h3
      obtain ⟨rfl, rfl⟩ := h3
      exact ⟨h1, .inr ⟨g, cap, cur', rfl, h4, hO3.heap h5 (by simpa using hgrb), h6⟩⟩
  · refine ⟨hO3.heap (hO2.heap (hall y hy).1 ?_) (by simpa using (hall y hy).2.2.1), (hall y hy).2.1⟩
    have := (hall y hy).2.2.2
    cases hv : v.ownBlock with
    | none => simp
    | some k => rw [hv] at this; simp at this ⊢; exact fun e => this e.symm
  · simp only [Value.ownBlock, ne_eq, Option.some.injEq]
    intro e
    rcases hat with h1 | h1
    · exact (hall y hy).2.2.2 (by rw [h1, e])
    · have := lt_of_heap (hall y hy).1; omega
  · rcases hat with h1 | h1
    · exact .inl (by rw [h1]; rfl)
    · exact .inr ⟨g, rfl, by omega⟩

theorem mkAssert (a : Addr) (w : World) : (Instr.typeAssert (.iface 205 (.pointer (some a))) 20 205 false).run Tryz.prog w = .ok (.pointer (some a)) w := by kernel_rfl
theorem mkInfo : (Tryz.prog.info? 205).map (fun i => (i.zero, i.size, i.bytes)) = some (some (.pointer none), 1, 8) := by kernel_rfl

theorem push_any (rb : Nat) (gap : Int) (v : Value) (ms : List Mk) (x : Mk) (w : World) (h : RateAt w rb gap v ms) (hl : ms.length ≤ 1000)
    (hx : w.heap[x.blk]? = some (.cells #[.string x.key, .int .i64 x.at_] 207 (0, 0))) (hxb : 0 ≤ x.at_ ∧ x.at_ ≤ 1073741824) (hx1 : x.blk ≠ rb) (hx2 : v.ownBlock ≠ some x.blk) :
    Calls Tryz.prog 287 #[.pointer (some ⟨rb, 1, none⟩), .iface 205 (.pointer (some ⟨x.blk, 0, none⟩))] w (PushPost w rb gap v ms x) := by
  obtain ⟨i0, hi, hz0, hz1, hz2⟩ := info_parts mkInfo
  have hrow := h.row
  have c1 : w.cell? ⟨rb, 1, none⟩ = some v := cell_of_row w rb 1 _ _ _ hrow
  have hown := h.marks.own
  have hrb := lt_of_heap hrow
  have hxl := lt_of_heap hx
  obtain ⟨H, hH⟩ : ∃ H, w.heap.size = H := ⟨_, rfl⟩
  replace hH := Lib.hid hH
  generalize hxs : ms.map Mk.ptr = xs at hown
  generalize hnn : ms.length = n at hown hl
  have hK := h
  clear hrow h
  replace hK := Lib.hid hK
  have hvrb := hK.out.ne
  have hK1 : ∀ w1, ((w.alloc (.cells #[.pointer (some ⟨x.blk, 0, none⟩)] 205)).drew).grownBy w1 v.ownBlock → w1.heap[rb]? = some (.cells #[.int .i64 gap, v, .bool true] 171 (0, 0)) := fun w1 hg => by
    rw [hg.block rb (by simp; omega) hvrb.symm]
    show (w.alloc _).heap[rb]? = _
    rw [Below.heap_alloc _ _ _ hrb]
    exact hK.out.row
  replace hK1 := Lib.hid hK1
  have hown1 : ((w.alloc (.cells #[.pointer (some ⟨x.blk, 0, none⟩)] 205)).drew).ownsRow 0 205 1 v n xs := (hown.alloc _).drew
  clear hvrb hown
  replace hown1 := Lib.hid hown1
  replace hxs := Lib.hid hxs
  replace hnn := Lib.hid hnn
  have hnw : ((w.alloc (.cells #[.pointer (some ⟨x.blk, 0, none⟩)] 205)).drew).heap[H]? = some (.cells #[.pointer (some ⟨x.blk, 0, none⟩)] 205 (0, 0)) := by rw [← hH.out]; exact heap_alloc_new _ _
  have hnews := World.news_of_block hnw
  clear hnw
  replace hnews := Lib.hid hnews
  have hsw : w.heap.size = H := hH.out
  have hta := mkAssert ⟨x.blk, 0, none⟩
  have c1a : (w.alloc (.cells #[.pointer (some ⟨x.blk, 0, none⟩)] 205)).cell? ⟨rb, 1, none⟩ = some v := (World.cell?_alloc_lt _ _ _ hrb).trans c1
  go_enter Tryz.func287, Tryz.ntmps287
  go_wp2_with fail
  go_region_law ((go_loud (refine step_append_lies _ (by rfl) (.tmp 7) (.tmp 10) 169 (by rfl) 0 205 i0 (.pointer none) 1 8 Tryz.underlying169 hi hz0 hz1 hz2 rfl (by omega) v n xs (by rfl) hown1.out ⟨H, 0, none⟩ 1 1 [.pointer (some ⟨x.blk, 0, none⟩)] (by rfl) rfl hnews.out (by simp [Value.oneCell']) (by omega) (by unfold maxLen; omega) (by omega) (Nat.zero_le _) (H + 1) (by simp [hH.out]) ?_); intro g cap w1 hown2 hgrow hat hlt; have c2 : w1.cell? ⟨rb, 1, none⟩ = some v := cell_of_row w1 rb 1 _ _ _ (hK1.out w1 hgrow); have f2 : w1.frozen? ⟨rb, 1, none⟩ = false := frozen_of_row w1 rb _ _ _ (hK1.out w1 hgrow)))
  all_goals
    go_wp2_with fail
    go_end0
    exact push_fin hK.out hx hxb hx1 hx2 hnn.out hH.out (hxs.out.symm ▸ hown2) hgrow hat
end Go.Proofs.YtecociaolohfmaaGreatDoor
