/- Items behind data. -/
import Derived.Test.YtjfmbjgniajagaaGreatDoorItemsClone
namespace Go.Proofs.YtjfmbjgniajagaaGreatDoor
open Go.RowKit
attribute [local go_sem ↓] Go.wp_at_zero Go.wp_at_succ

/-! ### plain -/
def updItm (x : Itm) (m : Met) : Itm := ⟨x.name, x.has, x.al, x.ty, m.null, m.vk, (plainV m.vk m.vn m.vs).1, (plainV m.vk m.vn m.vs).2⟩
theorem updItm_wf {x : Itm} {m : Met} (hx : x.wf) (hm : m.wf) : (updItm x m).wf := by
  obtain ⟨h1, h2, h3, h4, _⟩ := hx
  obtain ⟨_, _, _, _, h5, h6, h7, h8⟩ := hm
  unfold updItm plainV
  split
  · exact ⟨h1, h2, h3, h4, h5, h6, by simp, by simp⟩
  · exact ⟨h1, h2, h3, h4, h5, h6, h7, h8⟩
def updGo (F : Int → ByteArray × Bool) : List Met → List Itm → Int × List Itm
  | [], out => (1, out)
  | m :: r, out => if (nameOf F m).1 = 1 then (match itIdx out (nameOf F m).2 with
    | some i => updGo F r (out.set i (updItm (itAt out i) m))
    | none => (7, [])) else ((nameOf F m).1, [])

/-! ### in memory -/
theorem itm_set {w : World} {g cap : Nat} {L : List Itm} {i : Nat} {nm : ByteArray} {hs : Bool} {al ty : Int} {nu0 nu : Bool} {vk0 vk vn0 vn : Int} {vs0 vs : ByteArray} (h : Row 83 Itm.cells 8 w g cap L) (hi : i < L.length) (hx : itAt L i = ⟨nm, hs, al, ty, nu0, vk0, vn0, vs0⟩) :
    Row 83 Itm.cells 8 ((((w.setCell ⟨g, i * 8 + 4, none⟩ (.bool nu)).setCell ⟨g, i * 8 + 5, none⟩ (.int .i64 vk)).setCell ⟨g, i * 8 + 6, none⟩ (.int .u64 vn)).setCell ⟨g, i * 8 + 7, none⟩ (.string vs)) g cap (L.set i ⟨nm, hs, al, ty, nu, vk, vn, vs⟩) := by
  obtain ⟨cur, hb, h1, h2, h3, h4⟩ := h
  refine ⟨_, heap_setCell_same _ _ _ _ _ _ (heap_setCell_same _ _ _ _ _ _ (heap_setCell_same _ _ _ _ _ _ (heap_setCell_same _ _ _ _ _ _ hb))), by simpa using h1, h2, by simp [h3], ?_⟩
  apply List.ext_getElem?
  intro t
  simp only [List.length_set]
  by_cases ht : t < L.length * 8
  · rw [List.getElem?_take_of_lt ht, Array.getElem?_toList]
    simp only [Array.getElem?_setIfInBounds, Array.size_setIfInBounds]
    have htc : t < cur.size := by rw [h3]; have := Nat.mul_le_mul_right 8 h1; omega
    have hj : t / 8 < L.length := by omega
    have hj2 : t / 8 < (L.set i ⟨nm, hs, al, ty, nu, vk, vn, vs⟩).length := by simpa using hj
    have hold : cur[t]? = (L[t / 8].cells)[t % 8]? := by
      have e := rowOf_get Itm.cells_len L (t / 8) (t % 8) L[t / 8] (List.getElem?_eq_getElem hj) (by omega)
      rw [Nat.div_add_mod' t 8, ← h4, List.getElem?_take_of_lt ht, Array.getElem?_toList] at e
      exact e
    have hnew := rowOf_get Itm.cells_len (L.set i ⟨nm, hs, al, ty, nu, vk, vn, vs⟩) (t / 8) (t % 8) _ (List.getElem?_eq_getElem hj2) (by omega)
    rw [Nat.div_add_mod' t 8] at hnew
    rw [hnew, List.getElem_set]
    by_cases hij : i = t / 8
    · rw [if_pos hij]
      have hx2 : L[t / 8] = ⟨nm, hs, al, ty, nu0, vk0, vn0, vs0⟩ := by
        rw [← hx]
        subst hij
        simp [itAt, List.getD, hj]
      rw [hold, hx2]
      have hm : t % 8 = 0 ∨ t % 8 = 1 ∨ t % 8 = 2 ∨ t % 8 = 3 ∨ t % 8 = 4 ∨ t % 8 = 5 ∨ t % 8 = 6 ∨ t % 8 = 7 := by omega
      rcases hm with h | h | h | h | h | h | h | h
      · rw [if_neg (by omega), if_neg (by omega), if_neg (by omega), if_neg (by omega), h]; rfl
      · rw [if_neg (by omega), if_neg (by omega), if_neg (by omega), if_neg (by omega), h]; rfl
      · rw [if_neg (by omega), if_neg (by omega), if_neg (by omega), if_neg (by omega), h]; rfl
      · rw [if_neg (by omega), if_neg (by omega), if_neg (by omega), if_neg (by omega), h]; rfl
      · rw [if_neg (by omega), if_neg (by omega), if_neg (by omega), if_pos (by omega), if_pos (by omega), h]; rfl
      · rw [if_neg (by omega), if_neg (by omega), if_pos (by omega), if_pos (by omega), h]; rfl
      · rw [if_neg (by omega), if_pos (by omega), if_pos (by omega), h]; rfl
      · rw [if_pos (by omega), if_pos (by omega), h]; rfl
    · rw [if_neg hij, if_neg (by omega), if_neg (by omega), if_neg (by omega), if_neg (by omega), hold]
  · rw [List.getElem?_eq_none (by simp; omega), List.getElem?_eq_none (by rw [rowOf_len Itm.cells_len]; simp; omega)]
theorem OutRow.form {B : Nat} {w : World} {a : Option Addr} {cap : Nat} {L : List Itm} (h : OutRow B w a cap L) (h0 : 0 < L.length) : ∃ g, a = some ⟨g, 0, none⟩ ∧ B ≤ g ∧ Row 83 Itm.cells 8 w g cap L := by
  obtain ⟨g, cap', he, hR⟩ := owned_row h.own rfl (fun e => by
    rcases h.own.2 with ⟨_, h1⟩ | ⟨_, _, _, h1, _⟩
    · omega
    · rw [e] at h1; cases h1)
  cases he
  exact ⟨g, rfl, h.fresh _ rfl, hR⟩
theorem OutRow.set {B : Nat} {w : World} {g cap : Nat} {L : List Itm} {i : Nat} {x : Itm} {w' : World} (h : OutRow B w (some ⟨g, 0, none⟩) cap L) (hR : Row 83 Itm.cells 8 w' g cap (L.set i x)) (hx : x.wf) : OutRow B w' (some ⟨g, 0, none⟩) cap (L.set i x) :=
  ⟨hR.owns Itm.cells_len, h.fresh, fun y hy => by
    rcases List.mem_or_eq_of_mem_set hy with h1 | rfl
    · exact h.good y h1
    · exact hx⟩

def UpdPost (r : Int × List Itm) (w : World) (e : Ending) (w' : World) : Prop :=
  ∃ a cap er, e = .returned (.tuple #[.slice a r.2.length cap, er]) ∧ OutRow w.heap.size w' a cap r.2 ∧ Own [] w w' ∧
    ((r.1 = 1 ∧ er = .nilIface) ∨ ∃ q, er = .iface 160 (.pointer (some ⟨q, 0, none⟩)) ∧ w'.heap[q]? = some (.cells #[.int .i64 r.1] 164 (0, 0)))

set_option maxRecDepth 100000 in
set_option maxHeartbeats 8000000 in
theorem update_any (a : Option Addr) (L : List Itm) (cap : Nat) (am : Option Addr) (M : List Met) (capm : Nat) (tb tm : Nat) (l : ATab) (ow : ByteArray) (w : World) (h : ItemsAt w a L) (hM : MetsAt w am M) (hT : Tab w tb tm l) (hb : L.length * 72 ≤ 140737488351232) :
    Calls Tryz.prog 90 #[.slice a L.length cap, .slice am M.length capm, .pointer (some ⟨tb, 0, none⟩), .string ow] w (UpdPost (updGo (aFind l ow) M L) w) := by
  have hlm := hM.1
  have hl := h.1
  have C := Lib.hid (clone_any a L cap w h hb)
  generalize hr : updGo (aFind l ow) M L = r
  replace hr := Lib.hid hr
  replace hM := Lib.hid hM
  replace hT := Lib.hid hT
  clear h
  go_enter Tryz.func90, Tryz.ntmps90
  go_wp2_with fail
  refine C.out.mono ?_
  rintro e w1 ⟨oa, oc, rfl, hR1, hO1⟩
  replace hR1 := Lib.hid hR1
  replace hO1 := Lib.hid hO1
  clear C
  obtain ⟨N, hN⟩ : ∃ N, N = L.length := ⟨_, rfl⟩
  rw [← hN] at hb hl ⊢
  replace hN := Lib.hid hN
  go_wp2_with fail
  go_loopg [20] M.length (fun g s20 wr => ∃ (k : Nat) (Lk : List Itm), k ≤ M.length ∧ g = M.length - k ∧ s20 = .int .i64 k ∧
      Aside (Lk.length = N ∧ OutRow w.heap.size wr oa oc Lk ∧ Own [] w wr ∧ updGo (aFind l ow) (M.drop k) Lk = r))
  case atStart => exact ⟨0, L, by omega, by omega, rfl, hN.out.symm, hR1.out, hO1.out, hr.out⟩
  case round =>
    obtain ⟨k, Lk, hk, rfl, rfl, hA⟩ := hrel
    obtain ⟨hL, hR, hO, hG⟩ := hA
    clear hr hR1 hO1
    by_cases hlt : k < M.length
    · obtain ⟨b, o, rfl, hbl, hwf, hc⟩ := (hM.out.nil' hO).met hlt
      rw [List.drop_eq_getElem_cons hlt] at hG
      generalize M[k] = x at hc hG hwf
      have hNm := fun (w1 : World) (hO1 : Own [] w w1) => named_any x tb tm l ow w1 (hT.out.own hO1 (by simp) (by simp))
      have hPl := fun n => itPlace_lt Lk n
      have hpi : ∀ n, itPlace Lk n = (match itIdx Lk n with | some i => (i : Int) | none => -1) := fun n => rfl
      have hP := fun (n : ByteArray) (w1 : World) (hO1 : Own [] wr w1) (lb : Nat) (hc1 : w1.cell? ⟨lb, 0, none⟩ = some (.slice oa Lk.length oc)) => place_any oa Lk oc lb n w1 (((hR.nil' hO1).at_ (by omega))) hc1
      rw [hL] at hP hPl
      have hV := plain_any x.vk x.vn x.vs
      have hu : ∀ y : Itm, updItm y x = ⟨y.name, y.has, y.al, y.ty, x.null, x.vk, (plainV x.vk x.vn x.vs).1, (plainV x.vk x.vn x.vs).2⟩ := fun y => rfl
      have huw : ∀ y : Itm, y.wf → (updItm y x).wf := fun y hy => updItm_wf hy hwf
      unfold updGo at hG
      generalize nameOf (aFind l ow) x = rn at hNm hG
      obtain ⟨rc, rs⟩ := rn
      generalize plainV x.vk x.vn x.vs = pv at hV hu
      obtain ⟨pn, ps⟩ := pv
      generalize hUF : (fun y => updItm y x) = uf at *
      have hUF2 : ∀ y, updItm y x = uf y := fun y => by rw [← hUF]
      simp only [hUF2] at hG hu huw
      clear hUF hUF2
      obtain ⟨nm, hs, al, ti, ty, hi_, tr, nu, ⟨x1, y1, z1⟩, ⟨x2, y2, z2⟩, vk, vn, vs, ⟨x3, y3, z3⟩, ⟨x4, y4, z4⟩⟩ := x
      have c0 := hc 0 _ rfl
      have c1 := hc 1 _ rfl
      have c2 := hc 2 _ rfl
      have c3 := hc 3 _ rfl
      have c4 := hc 4 _ rfl
      have c5 := hc 5 _ rfl
      have c6 := hc 6 _ rfl
      have c7 := hc 7 _ rfl
      have c8 := hc 8 _ rfl
      have c9 := hc 9 _ rfl
      have c10 := hc 10 _ rfl
      have c11 := hc 11 _ rfl
      have c12 := hc 12 _ rfl
      have c13 := hc 13 _ rfl
      have c14 := hc 14 _ rfl
      simp only [Nat.add_zero] at c0 c1 c2 c3 c4 c5 c6 c7 c8 c9 c10 c11 c12 c13 c14
      have hOm := hO.alloc (.cells #[.string nm, .bool hs, .int .u64 al, .int .u64 ti, .int .u32 ty, .bool hi_, .bool tr, .bool nu, .slice x1 y1 z1, .slice x2 y2 z2, .int .i64 vk, .int .u64 vn, .string vs, .slice x3 y3 z3, .slice x4 y4 z4] 36)
      have hOm1 := (Own.refl [] wr).alloc (.cells #[.string nm, .bool hs, .int .u64 al, .int .u64 ti, .int .u32 ty, .bool hi_, .bool tr, .bool nu, .slice x1 y1 z1, .slice x2 y2 z2, .int .i64 vk, .int .u64 vn, .string vs, .slice x3 y3 z3, .slice x4 y4 z4] 36)
      have hBm := heap_alloc_new wr (.cells #[.string nm, .bool hs, .int .u64 al, .int .u64 ti, .int .u32 ty, .bool hi_, .bool tr, .bool nu, .slice x1 y1 z1, .slice x2 y2 z2, .int .i64 vk, .int .u64 vn, .string vs, .slice x3 y3 z3, .slice x4 y4 z4] 36)
      have hmsz := hO.size
      unfold Met.val Met.cells NamedPost at hNm
      simp only at hNm hG hu hV
      have N1 := hNm _ hOm
      replace N1 := Lib.hid N1
      replace hG := Lib.hid hG
      replace hu := Lib.hid hu
      replace huw := Lib.hid huw
      replace hV := Lib.hid hV
      replace hP := Lib.hid hP
      replace hPl := Lib.hid hPl
      replace hpi := Lib.hid hpi
      replace hR := Lib.hid hR
      replace hO := Lib.hid hO
      replace hOm := Lib.hid hOm
      replace hOm1 := Lib.hid hOm1
      replace hBm := Lib.hid hBm
      replace hL := Lib.hid hL
      clear hc hwf hNm
      go_wp2_with fail
      refine N1.out.mono ?_
      rintro e w2 ⟨er, rfl, hO2, hor⟩
      have hO3 := hOm.out.trans hO2
      have hO31 := hOm1.out.trans hO2
      have hB3 := hO2.heap hBm.out (by simp)
      clear N1
      rcases hor with ⟨h1, rfl⟩ | ⟨h1, q, rfl, hq⟩
      · replace hG : Hid ((match itIdx Lk rs with | some i => updGo (aFind l ow) (M.drop (k + 1)) (Lk.set i (uf (itAt Lk i))) | none => (7, [])) = r) := Lib.hid (by have := hG.out; rw [if_pos h1] at this; exact this)
        clear h1 c0 c1 c2 c3 c4 c5 c6 c7 c8 c9 c10 c11 c12 c13 c14
        have hA1 := (Own.refl [] w2).alloc (.cells #[.slice oa N oc] 42)
        have P1 := hP.out rs (w2.alloc (.cells #[.slice oa N oc] 42)) (hO31.trans hA1) w2.heap.size (by simp)
        have hB4 := hA1.heap hB3 (by simp)
        have hO4 := hO3.trans hA1
        have hO41 := hO31.trans hA1
        have hPl1 := hPl.out rs
        have hpi1 := hpi.out rs
        clear hO2 hO3 hO31 hB3 hA1 hP hPl hpi
        cases hidx : itIdx Lk rs with
        | none =>
          have hpv : itPlace Lk rs = -1 := by rw [hpi1, hidx]
          have hr7 : r = (7, []) := by have := hG.out; rw [hidx] at this; exact this.symm
          rw [hpv] at P1
          replace hr7 := Lib.hid hr7
          replace P1 := Lib.hid P1
          replace hO4 := Lib.hid hO4
          clear hpi1 hPl1 hG hidx hpv hB4 hO41
          go_wp2_with fail
          refine P1.out.mono ?_
          rintro e w3 ⟨rfl, hO5⟩
          replace hO5 := Lib.hid (hO4.out.trans hO5)
          go_wp2_with fail
          refine (refuse_any _ _).mono ?_
          rintro e w4 ⟨q, rfl, hr2, hO6⟩
          replace hr2 := Lib.hid hr2
          replace hO6 := Lib.hid (hO5.out.trans hO6)
          go_wp2_with fail
          go_ret2
          rw [hr7.out]
          exact ⟨none, 0, _, rfl, OutRow.nil _ _, hO6.out, .inr ⟨_, rfl, hr2.out⟩⟩
        | some i =>
          have hpv : itPlace Lk rs = i := by rw [hpi1, hidx]
          have hG2 : updGo (aFind l ow) (M.drop (k + 1)) (Lk.set i (uf (itAt Lk i))) = r := by have := hG.out; rw [hidx] at this; exact this
          have hiN : i < N := by rw [← hL.out]; exact (itIdx_lt hidx).1
          obtain ⟨g, rfl, hgw, hRow⟩ := hR.out.form (by rw [hL.out]; omega)
          have hgl := hRow.lt
          rw [hpv] at P1
          replace hG2 := Lib.hid hG2
          replace P1 := Lib.hid P1
          replace hO4 := Lib.hid hO4
          replace hB4 := Lib.hid hB4
          replace hRow := Lib.hid hRow
          clear hpi1 hPl1 hG hidx hpv
          go_wp2_with fail
          refine P1.out.mono ?_
          rintro e w3 ⟨rfl, hO5⟩
          have hO6 := hO4.out.trans hO5
          have hO61 := hO41.trans hO5
          have hB5 := hO5.heap hB4.out (by simp)
          have d7 := blk_cell hB5 (j := 7) rfl
          have d10 := blk_cell hB5 (j := 10) rfl
          have d11 := blk_cell hB5 (j := 11) rfl
          have d12 := blk_cell hB5 (j := 12) rfl
          have q0 : (0 : Int) ≤ i := by omega
          have q1 : (i : Int) < N := by omega
          have hne1 : g ≠ wr.heap.size := by omega
          have hne2 : wr.heap.size ≠ g := by omega
          have hi' : i < Lk.length := by rw [hL.out]; exact hiN
          have hget := itAt_get hi'
          have hxw : (itAt Lk i).wf := hR.out.good _ (List.mem_of_getElem? hget)
          have hy := fun (W : World) (ho : Own [] wr W) (c : Nat) (v : Value) (hv : (itAt Lk i).cells[c]? = some v) => (hRow.out.own ho (by simp)).cell Itm.cells_len hget hv
          have hfz := fun (W : World) (ho : Own [] wr W) (j : Nat) => (hRow.out.own ho (by simp)).frozen j
          have hset := fun (W : World) (ho : Own [] wr W) (nm hs al ty nu0 vk0 vn0 vs0) (nu vk vn vs) (he : itAt Lk i = ⟨nm, hs, al, ty, nu0, vk0, vn0, vs0⟩) => itm_set (nu := nu) (vk := vk) (vn := vn) (vs := vs) (hRow.out.own ho (by simp)) hi' he
          have hu2 := hu.out (itAt Lk i)
          have hw2 := huw.out _ hxw
          generalize hxi : itAt Lk i = y at hy hset hG2 hu2 hw2
          obtain ⟨nm', hs', al', ty', nu', vk', vn', vs'⟩ := y
          have hsetF := fun (W : World) (ho : Own [] wr W) => hset W ho _ _ _ _ _ _ _ _ nu vk pn ps rfl
          simp only at hu2
          replace hu2 := Lib.hid hu2
          replace hw2 := Lib.hid hw2
          replace hsetF := Lib.hid hsetF
          replace hy := Lib.hid hy
          replace hfz := Lib.hid hfz
          replace hO6 := Lib.hid hO6
          replace hO61 := Lib.hid hO61
          replace hB5 := Lib.hid hB5
          clear hset hxi hget hxw hO41 hO5 P1 hO4 hB4
          go_wp2_with fail
          go_region_held3 (fun w' => w'.cell? ⟨wr.heap.size, 7, none⟩ = some (.bool nu) ∧ w'.cell? ⟨wr.heap.size, 10, none⟩ = some (.int .i64 vk) ∧ w'.cell? ⟨wr.heap.size, 11, none⟩ = some (.int .u64 vn) ∧ w'.cell? ⟨wr.heap.size, 12, none⟩ = some (.string vs))
            (first | go_keep | (exact ⟨blk_cell hB7 (j := 7) rfl, blk_cell hB7 (j := 10) rfl, blk_cell hB7 (j := 11) rfl, blk_cell hB7 (j := 12) rfl⟩))
            ((go_at_call 113; refine (hV.out _).mono ?_; rintro e w4 ⟨rfl, hO7⟩; have hB7 := hO7.heap (b := wr.heap.size) hB5.out (by simp); have hO8 : Own [] wr w4 := hO61.out.drew.trans hO7; have y4 := hy.out w4 hO8 4 _ rfl; have y5 := hy.out w4 hO8 5 _ rfl; have y6 := hy.out w4 hO8 6 _ rfl; have y7 := hy.out w4 hO8 7 _ rfl; have z4 := hfz.out w4 hO8 (i * 8 + 4); have z5 := hfz.out w4 hO8 (i * 8 + 5); have z6 := hfz.out w4 hO8 (i * 8 + 6); have z7 := hfz.out w4 hO8 (i * 8 + 7)))
          have R1 := hsetF.out w4 hO8
          have O1 : Own [] w ((((w4.setCell ⟨g, i * 8 + 4, none⟩ (.bool nu)).setCell ⟨g, i * 8 + 5, none⟩ (.int .i64 vk)).setCell ⟨g, i * 8 + 6, none⟩ (.int .u64 pn)).setCell ⟨g, i * 8 + 7, none⟩ (.string ps)) :=
            ((((hO6.out.drew.trans hO7).setCell (.inr hgw) _).setCell (.inr hgw) _).setCell (.inr hgw) _).setCell (.inr hgw) _
          have R2 := hR.out.set R1 (by rw [← hu2.out]; exact hw2.out)
          replace hG2 := hG2.out
          rw [hu2.out] at hG2
          replace hG2 := Lib.hid hG2
          replace R2 := Lib.hid R2
          replace O1 := Lib.hid O1
          clear R1 hsetF hO8 hO7 hB7 y4 y5 y6 y7 z4 z5 z6 z7 hy hfz
          go_wp2_with fail
          go_roundg (M.length - (k + 1))
          case measure => omega
          case rel => exact ⟨k + 1, _, by omega, rfl, by go_num, by rw [List.length_set]; exact hL.out, R2.out, O1.out, hG2.out⟩
      · have hr1 : r = (rc, []) := by have := hG.out; rw [if_neg h1] at this; exact this.symm
        replace hr1 := Lib.hid hr1
        replace hO3 := Lib.hid hO3
        replace hq := Lib.hid hq
        clear hG h1 hO2 hO31 hB3 c0 c1 c2 c3 c4 c5 c6 c7 c8 c9 c10 c11 c12 c13 c14
        go_wp2_with fail
        go_ret2
        rw [hr1.out]
        exact ⟨none, 0, _, rfl, OutRow.nil _ _, hO3.out, .inr ⟨_, rfl, hq.out⟩⟩
    · obtain rfl : k = M.length := by omega
      rw [List.drop_eq_nil_of_le (Nat.le_refl _)] at hG
      have hr1 : r = (1, Lk) := by unfold updGo at hG; exact hG.symm
      replace hr1 := Lib.hid hr1
      replace hR := Lib.hid hR
      replace hO := Lib.hid hO
      replace hL := Lib.hid hL
      clear hG
      go_wp2_with fail
      go_ret2
      rw [hr1.out]
      exact ⟨oa, oc, _, by simp only [hL.out]; rfl, hR.out, hO.out, .inl ⟨rfl, rfl⟩⟩
end Go.Proofs.YtjfmbjgniajagaaGreatDoor
