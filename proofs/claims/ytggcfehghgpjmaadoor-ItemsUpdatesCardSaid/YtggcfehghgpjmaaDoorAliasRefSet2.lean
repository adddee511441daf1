/- The document's aliases: Set. -/
import Derived.Test.YtggcfehghgpjmaaDoorAliasRefSet
import Derived.Deep.AppendLies
namespace Go.Proofs.YtggcfehghgpjmaaDoor
open Go.RowKit

/-! ### plain -/
def rWant (ow : ByteArray) (L : List Itm) : ATab := (L.filter (·.has)).map fun x => (x.al, (ow, x.name))
def rSet (R : ATab) (ow : ByteArray) (L : List Itm) : Int × ATab := if rTry R ow L = 0 then (0, aOthers R ow ++ rWant ow L) else (rTry R ow L, R)
theorem rGo_zero (R : ATab) (ow : ByteArray) : ∀ (L pre : List Itm) (n : Nat), rGo R ow pre L n = 0 → n + (L.filter (·.has)).length ≤ 64
  | [], pre, n, h => by
    simp only [rGo] at h
    split at h
    · simp at h
    · simp; omega
  | x :: r, pre, n, h => by
    rw [rGo_cons] at h
    cases hx : x.has
    · rw [hx] at h
      simp only [Bool.false_eq_true, if_false] at h
      have := rGo_zero R ow r _ n h
      simpa [hx] using this
    · rw [hx] at h
      simp only [if_true] at h
      split at h
      · simp at h
      · split at h
        · simp at h
        · have := rGo_zero R ow r _ (n + 1) h
          simp [hx]
          omega
theorem rWant_snoc {L : List Itm} {i : Nat} (h : i < L.length) (ow : ByteArray) : rWant ow (L.take (i + 1)) = rWant ow (L.take i) ++ if (itAt L i).has then [((itAt L i).al, (ow, (itAt L i).name))] else [] := by
  rw [← (take_itAt h).1]
  unfold rWant
  rw [List.filter_append, List.map_append]
  congr 1
  cases hx : (itAt L i).has <;> simp [hx]
theorem rWant_le (L : List Itm) (i : Nat) (ow : ByteArray) : (rWant ow (L.take i)).length ≤ (L.filter (·.has)).length := by
  unfold rWant
  rw [List.length_map]
  exact ((List.take_sublist i L).filter _).length_le

theorem rpush_end {xb g cap n : Nat} {oa : Option Addr} {oc : Nat} {X : ATab} {x : Int × Stands} {w wr w1 : World} {o : Obj} (h : RTab wr xb (.slice oa n oc) X) (hn : n = X.length) (hO : Own [xb] w wr) (hge : ∀ g, (Value.slice oa n oc).ownBlock = some g → w.heap.size ≤ g) (hxw : xb < w.heap.size)
    (hown2 : w1.ownsRow 0 77 3 (.slice (some ⟨g, 0, none⟩) (n + 1) cap) (n + 1) (rowOf rEnc X ++ rEnc x)) (hgrow : ((wr.alloc o).drew).grownBy w1 (Value.slice oa n oc).ownBlock) (hat : (Value.slice oa n oc).ownBlock = some g ∨ g = wr.heap.size + 1) :
    RTab (w1.setCell ⟨xb, 0, none⟩ (.slice (some ⟨g, 0, none⟩) (n + 1) cap)) xb (.slice (some ⟨g, 0, none⟩) (n + 1) cap) (X ++ [x]) ∧ Own [xb] w (w1.setCell ⟨xb, 0, none⟩ (.slice (some ⟨g, 0, none⟩) (n + 1) cap)) ∧ w.heap.size ≤ g := by
  subst hn
  have e : rowOf rEnc X ++ rEnc x = rowOf rEnc (X ++ [x]) := by simp [rowOf]
  rw [e] at hown2
  have hs := hO.size
  have hgw : w.heap.size ≤ g := by
    rcases hat with h1 | h1
    · exact hge g h1
    · omega
  have hO1 : Own [xb] w w1 := ((hO.alloc o).drew).trans' (grown_row' hgrow) (by
    intro z hz
    right
    exact hge z (by simpa using hz))
  have hrow1 : w1.heap[xb]? = some (.cells #[.slice oa X.length oc] 52 (0, 0)) := by
    rw [hgrow.block xb (by simp; omega) (by have := h.ne; exact fun hc => this hc.symm)]
    show (wr.alloc o).heap[xb]? = _
    rw [Below.heap_alloc _ _ _ (lt_of_heap h.row)]
    exact h.row
  have hO2 : Own [xb] w1 (w1.setCell ⟨xb, 0, none⟩ (.slice (some ⟨g, 0, none⟩) (X.length + 1) cap)) := (Own.refl _ _).setCell (by simp) _
  refine ⟨⟨heap_setCell_same _ _ _ _ _ _ hrow1, ?_, ?_⟩, hO1.trans hO2, hgw⟩
  · have := rOwns_own hown2 hO2 (fun b hb => by simp [Value.ownBlock] at hb; subst hb; simp; omega)
    simpa using this
  · simp [Value.ownBlock]
    omega

def RSetPost (xb : Nat) (r : Int × ATab) (w : World) (e : Ending) (w' : World) : Prop :=
  e = .returned (.int .i64 r.1) ∧ ∃ v', RTab w' xb v' r.2 ∧ Own [xb] w w' ∧ (r.1 = 0 → ∀ g, v'.ownBlock = some g → w.heap.size ≤ g)
set_option maxRecDepth 100000 in
set_option maxHeartbeats 8000000 in
theorem rset_zero (xb : Nat) (v : Value) (R : ATab) (ow : ByteArray) (a : Option Addr) (L : List Itm) (c : Nat) (w : World) (h : RTab w xb v R) (hl : R.length ≤ 1000000) (hA : ItemsAt w a L) (hax : 0 < L.length → ∀ q, a = some q → q.block ≠ xb) (hz : rTry R ow L = 0) :
    Calls Tryd.prog 19 #[.pointer (some ⟨xb, 0, none⟩), .string ow, .slice a L.length c] w (RSetPost xb (0, aOthers R ow ++ rWant ow L) w) := by
  obtain ⟨i0, hi, hz0, hz1, hz2⟩ := info_parts rowInfo
  have T := rtry_any xb v R ow a L c w h hl hA
  rw [hz] at T
  have hlL := hA.1
  have hcnt := rGo_zero R ow L [] _ hz
  have hxw := lt_of_heap h.row
  replace T := Lib.hid T
  replace h := Lib.hid h
  replace hA := Lib.hid hA
  replace hax := Lib.hid hax
  clear hz
  go_enter Tryd.func19, Tryd.ntmps19
  go_wp2_with fail
  refine T.out.mono ?_
  rintro e w1 ⟨rfl, hO1⟩
  have D := rdrop_any xb v R ow w1 (h.out.nil' hO1) hl
  unfold RDropPost at D
  replace D := Lib.hid D
  replace hO1 := Lib.hid hO1
  clear T
  go_wp2_with fail
  refine D.out.mono ?_
  rintro e w2 ⟨rfl, v2, hR2, hO2, hge2⟩
  have hO3 : Own [xb] w w2 := hO1.out.nil.trans hO2
  have hge3 : ∀ g, v2.ownBlock = some g → w.heap.size ≤ g := fun g hg => Nat.le_trans hO1.out.size (hge2 g hg)
  replace hR2 := Lib.hid hR2
  replace hO3 := Lib.hid hO3
  replace hge3 := Lib.hid hge3
  clear D hO2 hge2 hO1
  generalize hAo : aOthers R ow = Ao at *
  replace hAo := Lib.hid hAo
  go_wp2_with fail
  go_loopg [8] L.length (fun g s8 wr => ∃ (i : Nat) (vv : Value), i ≤ L.length ∧ g = L.length - i ∧ s8 = .int .i64 i ∧ Aside (RTab wr xb vv (Ao ++ rWant ow (L.take i)) ∧ Own [xb] w wr ∧ ∀ g, vv.ownBlock = some g → w.heap.size ≤ g))
  case atStart => exact ⟨0, v2, by omega, by omega, rfl, by simpa [rWant] using hR2.out, hO3.out, hge3.out⟩
  case round =>
    obtain ⟨i, vv, hil, rfl, rfl, hR, hO, hge⟩ := hrel
    clear hR2 hO3 hge3
    by_cases hlt : i < L.length
    · obtain ⟨b, o, rfl, hb, _, hc⟩ := hA.out.item hlt
      have hbx : b ≠ xb := hax.out (by omega) _ rfl
      have hw := rWant_snoc hlt ow
      have hwl := rWant_le L i ow
      generalize itAt L i = x at hc hw
      have hc2 := At8.own hc hO hb (by simpa using hbx)
      obtain ⟨nm, hs, al, ty, nu, vk, vn, vs⟩ := x
      obtain ⟨d0, d1, d2, d3, d4, d5, d6, d7⟩ := At8.all hc2
      simp only at hw
      generalize hX : Ao ++ rWant ow (L.take i) = X at hR
      have hXl : X.length ≤ 64 := by rw [← hX]; simp; omega
      have hX2 : Ao ++ rWant ow (L.take (i + 1)) = X ++ if hs = true then [(al, (ow, nm))] else [] := by rw [hw, ← List.append_assoc, hX]
      obtain ⟨oa, oc, rfl, _⟩ := hR.form
      have c1 : wr.cell? ⟨xb, 0, none⟩ = some (.slice oa X.length oc) := cell_of_row wr xb 0 _ _ _ hR.row
      have q0 : (0 : Int) ≤ i := by omega
      have q1 : (i : Int) < L.length := by omega
      obtain ⟨n, hn⟩ : ∃ n, n = X.length := ⟨_, rfl⟩
      rw [← hn] at hR c1 hXl hge
      replace hn := Lib.hid hn
      replace hX2 := Lib.hid hX2
      have hszw := hO.size
      replace hO := Lib.hid hO
      replace hge := Lib.hid hge
      clear hc hc2 hw hX hwl d3 d4 d5 d6 d7
      cases hs
      · replace hR := Lib.hid hR
        go_wp2_with fail
        go_roundg (L.length - (i + 1))
        case measure => omega
        case rel => exact ⟨i + 1, _, by omega, rfl, by go_num, by rw [hX2.out]; simpa using hR.out, hO.out, hge.out⟩
      · have hxr := lt_of_heap hR.row
        obtain ⟨H, hH⟩ : ∃ H, wr.heap.size = H := ⟨_, rfl⟩
        have hown1 : ((wr.alloc (.cells #[.int .u64 al, .string ow, .string nm] 77)).drew).ownsRow 0 77 3 (.slice oa n oc) n (rowOf rEnc X) := by
          have := hR.own
          rw [← hn.out] at this
          exact (this.alloc _).drew
        have hnw : ((wr.alloc (.cells #[.int .u64 al, .string ow, .string nm] 77)).drew).heap[H]? = some (.cells #[.int .u64 al, .string ow, .string nm] 77 (0, 0)) := by rw [← hH]; exact heap_alloc_new _ _
        have hnews := World.news_of_block hnw
        have hK1 : ∀ w1, ((wr.alloc (.cells #[.int .u64 al, .string ow, .string nm] 77)).drew).grownBy w1 (Value.slice oa n oc).ownBlock → w1.heap[xb]? = some (.cells #[.slice oa n oc] 52 (0, 0)) := fun w1 hg => by
          rw [hg.block xb (by simp; omega) (by have := hR.ne; exact fun hc => this hc.symm)]
          show (wr.alloc _).heap[xb]? = _
          rw [Below.heap_alloc _ _ _ hxr]
          exact hR.row
        have hone := Lib.hid (row_one (al, ow, nm))
        unfold rEnc at hone
        have hsw : wr.heap.size = H := hH
        have c1a : (wr.alloc (.cells #[.int .u64 al, .string ow, .string nm] 77)).cell? ⟨xb, 0, none⟩ = some (.slice oa n oc) := (World.cell?_alloc_lt _ _ _ hxr).trans c1
        replace hH := Lib.hid hH
        replace hown1 := Lib.hid hown1
        replace hnews := Lib.hid hnews
        replace hK1 := Lib.hid hK1
        replace hR := Lib.hid hR
        clear hnw
        go_wp2_with fail
        go_region_law ((go_loud (refine step_append_lies _ (by rfl) (.tmp 34) (.tmp 47) 50 (by rfl) 0 77 i0 _ 3 40 Tryd.underlying50 hi hz0 hz1 hz2 rfl (by omega) (.slice oa n oc) n (rowOf rEnc X) (by rfl) hown1.out ⟨H, 0, none⟩ 1 1 [.int .u64 al, .string ow, .string nm] (by rfl) rfl hnews.out hone.out (by omega) (by unfold maxLen; omega) (by omega) (Nat.zero_le _) (H + 1) (by simp [hH.out]) ?_); intro g cap w1 hown2 hgrow hat hlt2; have c2 : w1.cell? ⟨xb, 0, none⟩ = some (.slice oa n oc) := cell_of_row w1 xb 0 _ _ _ (hK1.out w1 hgrow); have f2 : w1.frozen? ⟨xb, 0, none⟩ = false := frozen_of_row w1 xb _ _ _ (hK1.out w1 hgrow)))
        all_goals
          have E := rpush_end (x := (al, ow, nm)) hR.out hn.out hO.out hge.out hxw hown2 hgrow (by rw [hH.out]; exact hat)
          replace E := Lib.hid E
          clear hown2 hgrow hat c2 f2
          go_wp2_with fail
          go_roundg (L.length - (i + 1))
          case measure => omega
          case rel => exact ⟨i + 1, _, by omega, rfl, by go_num, by rw [hX2.out]; exact E.out.1, E.out.2.1, fun q hq => by have := E.out.2.2; simp [Value.ownBlock] at hq; omega⟩
    · obtain rfl : i = L.length := by omega
      rw [List.take_length] at hR
      replace hR := Lib.hid hR
      replace hO := Lib.hid hO
      replace hge := Lib.hid hge
      go_wp2_with fail
      go_ret
      exact ⟨rfl, vv, hR.out, hO.out, fun _ => hge.out⟩
theorem rset_any (xb : Nat) (v : Value) (R : ATab) (ow : ByteArray) (a : Option Addr) (L : List Itm) (c : Nat) (w : World) (h : RTab w xb v R) (hl : R.length ≤ 1000000) (hA : ItemsAt w a L) (hax : 0 < L.length → ∀ q, a = some q → q.block ≠ xb) :
    Calls Tryd.prog 19 #[.pointer (some ⟨xb, 0, none⟩), .string ow, .slice a L.length c] w (RSetPost xb (rSet R ow L) w) := by
  unfold rSet
  by_cases hz : rTry R ow L = 0
  · rw [if_pos hz]
    exact rset_zero xb v R ow a L c w h hl hA hax hz
  · rw [if_neg hz]
    have T := rtry_any xb v R ow a L c w h hl hA
    have hz1 : ((rTry R ow L : Int) != 0) = true := by simpa using hz
    generalize rTry R ow L = r at T hz hz1
    replace T := Lib.hid T
    replace h := Lib.hid h
    replace hz := Lib.hid hz
    go_enter Tryd.func19, Tryd.ntmps19
    go_wp2_with fail
    refine T.out.mono ?_
    rintro e w1 ⟨rfl, hO1⟩
    replace hO1 := Lib.hid hO1
    go_wp2_with fail
    go_ret
    exact ⟨rfl, v, h.out.nil' hO1.out, hO1.out.nil, fun e => absurd e hz.out⟩
end Go.Proofs.YtggcfehghgpjmaaDoor
