/- The document's aliases: Drop, Set. -/
import Derived.Test.YtggcfehghgpjmaaDoorAliasRefTry
import Derived.Maps.AppendAt
import Derived.Deep.RegionLaw
namespace Go.Proofs.YtggcfehghgpjmaaDoor
open Go.RowKit

/-! ### a row of the call's own -/
structure ROut (B : Nat) (w : World) (a : Option Addr) (cap : Nat) (R : ATab) : Prop where
  own : w.ownsRow 0 77 3 (.slice a R.length cap) R.length (rowOf rEnc R)
  fresh : ∀ q, a = some q → B ≤ q.block
theorem ROut.nil (B : Nat) (w : World) : ROut B w none 0 [] := ⟨⟨by simp [rowOf], .inl ⟨rfl, rfl⟩⟩, by simp⟩
theorem ROut.nil' {B : Nat} {w w' : World} {a : Option Addr} {cap : Nat} {R : ATab} (h : ROut B w a cap R) (ho : Own [] w w') : ROut B w' a cap R := ⟨rOwns_own h.own ho (by simp), h.fresh⟩
theorem grown_row' {w w' : World} {row : Option Nat} (h : w.grownBy w' row) : Own row.toList w w' :=
  ⟨h.os, h.tape, h.output, h.size, fun k hk hn => h.block k hk (by cases row with | none => simp | some g => simpa using hn)⟩
theorem ROut.push {w0 w1 w4 : World} {a : Option Addr} {cap n : Nat} {R : ATab} {x : Int × Stands} {v2 : Value} (h : ROut w0.heap.size w1 a cap R) (hn : n = R.length) (hO : Own [] w0 w1)
    (hown2 : w4.ownsRow 0 77 3 v2 (n + 1) (rowOf rEnc R ++ rEnc x)) (hgrow : w1.grownBy w4 (Value.slice a n cap).ownBlock) (hnil : v2 = .slice none 0 0 ↔ Value.slice a n cap = .slice none 0 0 ∧ 1 = 0)
    (hat : v2.ownBlock = (Value.slice a n cap).ownBlock ∨ v2.ownBlock = some w1.heap.size) :
    ∃ a' cap', v2 = .slice a' (n + 1) cap' ∧ ROut w0.heap.size w4 a' cap' (R ++ [x]) ∧ Own [] w0 w4 := by
  subst hn
  have e : rowOf rEnc R ++ rEnc x = rowOf rEnc (R ++ [x]) := by simp [rowOf]
  rw [e] at hown2
  have hl : R.length + 1 = (R ++ [x]).length := by simp
  obtain ⟨g, cap', he, hR⟩ := owned_row hown2 hl (fun e => by have := (hnil.1 e).2; omega)
  subst he
  have hO4 : Own [] w0 w4 := hO.trans' (grown_row' hgrow) (by
    intro z hz
    right
    cases a with
    | none => simp [Value.ownBlock] at hz
    | some q => simp [Value.ownBlock] at hz; subst hz; exact h.fresh q rfl)
  refine ⟨_, cap', by rw [hl], ⟨hR.owns rEnc_len, ?_⟩, hO4⟩
  intro q hq
  simp only [Option.some.injEq] at hq
  subst hq
  show w0.heap.size ≤ g
  have hs := hO.size
  cases a with
  | none => simp [Value.ownBlock] at hat; omega
  | some q =>
    have := h.fresh q rfl
    simp [Value.ownBlock] at hat
    omega
theorem rowInfo : (Tryd.prog.info? 77).map (fun i => (i.zero, i.size, i.bytes)) = some (some (.agg #[.int .u64 0, .string ⟨#[]⟩, .string ⟨#[]⟩]), 3, 40) := by kernel_rfl
theorem row_one (x : Int × Stands) : ∀ u ∈ rEnc x, u.oneCell' = true := by
  intro u hu
  simp [rEnc] at hu
  rcases hu with rfl | rfl | rfl <;> rfl
theorem aOthers_snoc {R : ATab} {ow : ByteArray} {k : Nat} (h : k < R.length) : aOthers (R.take (k + 1)) ow = aOthers (R.take k) ow ++ if (rAt R k).2.1 == ow then [] else [rAt R k] := by
  have hg : R[k] = rAt R k := by simp [rAt, List.getD, h]
  rw [List.take_succ_eq_append_getElem h, hg]
  unfold aOthers
  rw [List.filter_append]
  congr 1
  cases hx : ((rAt R k).2.1 == ow) <;> simp [hx]
def RDropPost (xb : Nat) (R : ATab) (ow : ByteArray) (w : World) (e : Ending) (w' : World) : Prop :=
  e = .returned (.int .i64 ((R.length : Int) - (aOthers R ow).length)) ∧ ∃ v', RTab w' xb v' (aOthers R ow) ∧ Own [xb] w w' ∧ ∀ g, v'.ownBlock = some g → w.heap.size ≤ g
theorem rdrop_end {xb : Nat} {v : Value} {X : ATab} {w wr : World} {oa : Option Addr} {oc : Nat} (hrow : w.heap[xb]? = some (.cells #[v] 52 (0, 0))) (hR : ROut w.heap.size wr oa oc X) (hO : Own [] w wr) :
    ∃ v', RTab (wr.setCell ⟨xb, 0, none⟩ (.slice oa X.length oc)) xb v' X ∧ Own [xb] w (wr.setCell ⟨xb, 0, none⟩ (.slice oa X.length oc)) ∧ ∀ g, v'.ownBlock = some g → w.heap.size ≤ g := by
  have hxl := lt_of_heap hrow
  have hge : ∀ g, (Value.slice oa X.length oc).ownBlock = some g → w.heap.size ≤ g := by
    intro g hg
    cases oa with
    | none => cases hg
    | some q => simp [Value.ownBlock] at hg; subst hg; exact hR.fresh q rfl
  have hO2 : Own [xb] wr (wr.setCell ⟨xb, 0, none⟩ (.slice oa X.length oc)) := (Own.refl _ _).setCell (by simp) _
  refine ⟨_, ⟨heap_setCell_same _ _ _ _ _ _ (hO.heap hrow (by simp)), rOwns_own hR.own hO2 (fun g hg => ?_), fun e => ?_⟩, hO.nil.trans hO2, hge⟩
  · have := hge g hg
    simp
    omega
  · have := hge xb e
    omega
set_option maxRecDepth 100000 in
set_option maxHeartbeats 4000000 in
theorem rdrop_any (xb : Nat) (v : Value) (R : ATab) (ow : ByteArray) (w : World) (h : RTab w xb v R) (hl : R.length ≤ 1000000) :
    Calls Tryd.prog 32 #[.pointer (some ⟨xb, 0, none⟩), .string ow] w (RDropPost xb R ow w) := by
  obtain ⟨i0, hi, hz0, hz1, hz2⟩ := info_parts rowInfo
  obtain ⟨ra, cap, rfl, hrow⟩ := h.form
  have c0 : w.cell? ⟨xb, 0, none⟩ = some (.slice ra R.length cap) := cell_of_row w xb 0 _ _ _ h.row
  have hrw := h.row
  have hxl := lt_of_heap h.row
  replace hrow := Lib.hid hrow
  replace hrw := Lib.hid hrw
  clear h
  go_enter Tryd.func32, Tryd.ntmps32
  go_wp2_with fail
  go_loopg [5, 6] R.length (fun g s5 s6 wr => ∃ (k : Nat) (oa : Option Addr) (oc n : Nat) (X : ATab), k ≤ R.length ∧ g = R.length - k ∧ s6 = .int .i64 k ∧ s5 = .slice oa n oc ∧ n ≤ k ∧ Aside (X.length = n ∧ ROut w.heap.size wr oa oc X ∧ Own [] w wr ∧ X = aOthers (R.take k) ow))
  case atStart => exact ⟨0, none, 0, 0, [], by omega, by omega, rfl, rfl, by omega, rfl, ROut.nil _ _, Own.refl _ _, rfl⟩
  case round =>
    obtain ⟨k, oa, oc, n, X, hk, rfl, rfl, rfl, hn, hXn, hX, hO, hXe⟩ := hrel
    have c1 : wr.cell? ⟨xb, 0, none⟩ = some (.slice ra R.length cap) := (hO.cell (p := ⟨xb, 0, none⟩) hxl (by simp)).trans c0
    by_cases hlt : k < R.length
    · obtain ⟨g, rfl, hR⟩ := hrow.out (by omega)
      obtain ⟨d0, d1, d2⟩ := row3 (hR.own hO (by simp)) hlt
      have hs := aOthers_snoc (ow := ow) hlt
      rw [← hXe] at hs
      generalize rAt R k = x at d0 d1 d2 hs
      obtain ⟨xa, xo, xn⟩ := x
      simp only at d0 d1 d2 hs
      have q0 : (0 : Int) ≤ k := by omega
      have q1 : (k : Int) < R.length := by omega
      clear hR hXe
      cases ho : (xo == ow)
      · rw [ho] at hs
        have ho1 : (xo.toList != ow.toList) = true := by rw [bne, ← beq_toListBytes, ho]; rfl
        have ho2 : (xo.toList == ow.toList) = false := by rw [← beq_toListBytes, ho]
        have hA1 := (Own.refl [] wr).alloc (.cells #[.int .u64 xa, .string xo, .string xn] 77)
        have hown := Lib.hid ((hX.nil' hA1).own)
        have hXA := Lib.hid (hX.nil' hA1)
        have hOA := Lib.hid (hO.trans hA1)
        have hnew := Lib.hid (World.news_of_block (heap_alloc_new wr (.cells #[.int .u64 xa, .string xo, .string xn] 77)))
        have hone := Lib.hid (row_one (xa, xo, xn))
        rw [hXn] at hown
        replace hs := Lib.hid hs
        replace hXn := Lib.hid hXn
        replace hO := Lib.hid hO
        replace hX := Lib.hid hX
        clear ho hA1
        unfold rEnc at hone
        go_wp2_with (at_builtin; refine wpList_append_own_at _ rfl (.tmp 27) (.tmp 35) 50 rfl 0 77 i0 _ 3 40 Tryd.underlying50 hi hz0 hz1 hz2 rfl (by omega) (.slice oa n oc) n (rowOf rEnc X) rfl hown.out ⟨wr.heap.size, 0, none⟩ 1 1 [.int .u64 xa, .string xo, .string xn] rfl rfl hnew.out hone.out (by unfold maxLen; omega) (by omega) (Nat.zero_le _) ?_; intro v2 w4 hown2 hgrow hnil hat; obtain ⟨a2, cap2, rfl, hR2, hO2⟩ := ROut.push (x := (xa, xo, xn)) hXA.out hXn.out.symm hOA.out hown2 hgrow hnil hat; clear hown2 hgrow hnil hat; replace hR2 := Lib.hid hR2; replace hO2 := Lib.hid hO2)
        go_roundg (R.length - (k + 1))
        case measure => omega
        case rel => exact ⟨k + 1, a2, cap2, n + 1, _, by omega, rfl, by go_num, rfl, by omega, by have := hXn.out; simp [this], hR2.out, hO2.out, by rw [hs.out]; rfl⟩
      · rw [ho] at hs
        have ho1 : (xo.toList != ow.toList) = false := by rw [bne, ← beq_toListBytes, ho]; rfl
        have ho2 : (xo.toList == ow.toList) = true := by rw [← beq_toListBytes, ho]
        replace hs := Lib.hid hs
        replace hXn := Lib.hid hXn
        replace hO := Lib.hid hO
        replace hX := Lib.hid hX
        clear ho
        go_wp2_with fail
        go_roundg (R.length - (k + 1))
        case measure => omega
        case rel => exact ⟨k + 1, oa, oc, n, X, by omega, rfl, by go_num, rfl, by omega, hXn.out, hX.out, hO.out, by rw [hs.out]; simp⟩
    · obtain rfl : k = R.length := by omega
      rw [List.take_length] at hXe
      have hE := rdrop_end hrw.out hX hO
      rw [hXn] at hE
      have hl2 : (aOthers R ow).length = n := by rw [← hXe, hXn]
      rw [hXe] at hE
      have f1 : wr.frozen? ⟨xb, 0, none⟩ = false := frozen_of_row wr xb 0 _ _ (hO.heap hrw.out (by simp))
      replace hE := Lib.hid hE
      replace hl2 := Lib.hid hl2
      clear hX hXe hO hXn
      go_wp2_with fail
      go_ret
      unfold RDropPost
      rw [hl2.out]
      exact ⟨rfl, hE.out⟩
end Go.Proofs.YtggcfehghgpjmaaDoor
