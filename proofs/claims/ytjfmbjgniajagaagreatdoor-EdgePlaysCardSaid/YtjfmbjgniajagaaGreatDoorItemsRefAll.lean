/- A copy of items by append. The document's Update (crierref31). -/
import Derived.Test.YtjfmbjgniajagaaGreatDoorItemsAwake
import Derived.Deep.Upon
import Derived.Test.YtjfmbjgniajagaaGreatDoorAliasRefAll
namespace Go.Proofs.YtjfmbjgniajagaaGreatDoor
open Go.RowKit
attribute [local go_sem ↓] Go.wp_at_zero Go.wp_at_succ

/-! ### a copy by append -/
/-- An append whose run is known. -/
theorem wpList_append_of {P : Program} {ops : Array Oper} {rest : List Oper} {o : Oper} {a : Act} {w w' : World} {Q : Exit → Act → World → Prop} (hgd : o.guard = none) (s x : Operand) (t tx ty : TypeId) (hty : o.type = ty)
    (ho : o.op = .call { callee := .builtin .append, args := #[s, x], argTypes := #[t, tx] }) {vs vx v : Value} (hs : a.eval s = vs) (hx : a.eval x = vx) (hr : (Builtin.append_ #[t, tx] ty #[vs, vx]).run P w = .ok v w')
    (h : wpList P ops Q rest (a.put o.dst v) w') : wpList P ops Q (o :: rest) a w := by
  subst hty
  refine wpList_plain hgd fun K hK => ?_
  unfold Oper.wp execOp
  simp only [ho, resolve, invoke, builtin, Sem.run_bind, Sem.run_pure, Result.andThen_ok, List.map_toArray, List.map_cons, List.map_nil, hs, hx, hr]
  exact hK _ _ h
theorem app_copy (w : World) (a : Option Addr) (L : List Itm) (cap : Nat) (h : ItemsAt w a L) (hb : L.length * 72 ≤ 140737488351232) :
    ∃ ao co wo, (Builtin.append_ #[42, 42] 42 #[.slice (some ⟨w.heap.size, 0, none⟩) 0 0, .slice a L.length cap]).run Tryz.prog (w.alloc (.cells #[] 83)) = .ok (.slice ao L.length co) wo ∧
      OutRow w.heap.size wo ao co L ∧ Own [] w wo := by
  obtain ⟨i0, hi, hz0, hz1, hz2⟩ := info_parts itmInfo
  have hA : Own [] w (w.alloc (.cells #[] 83)) := (Own.refl _ _).alloc _
  have hown := owns_empty (T := 83) (k := 8) w
  cases a with
  | none =>
    have h0 : L = [] := by
      cases L with
      | nil => rfl
      | cons x r => obtain ⟨b, o, e, _⟩ := h.2 (by simp); cases e
    subst h0
    refine ⟨some ⟨w.heap.size, 0, none⟩, 0, _, run_append_nothing _ _ _ _ _ i0 Tryz.underlying42 hi _ 0 0 (Nat.le_refl _) _ (Src.ofNil _ Tryz.underlying42 cap), ⟨?_, fun q hq => by simp at hq; subst hq; exact Nat.le_refl _, by simp⟩, hA⟩
    simpa [rowOf] using hown
  | some ad =>
    obtain ⟨v', w', hr, h2, h3, h4, h5⟩ := run_append_own_at (P := Tryz.prog) _ 0 42 42 83 i0 _ 8 72 Tryz.underlying42 hi hz0 hz1 hz2 rfl (by omega) _ 0 [] hown ad L.length cap (rowOf Itm.cells L) (rowOf_len Itm.cells_len L) (RowsAt.flat Itm.cells_len (h.nil' hA)) (itmRow_one L) (by have := h.1; unfold maxLen; omega) (by omega) (Nat.zero_le _)
    obtain ⟨a2, c2, rfl, hR, hO⟩ := out_of_append h.all_good hA (Nat.le_refl _) h2 h3 h4 h5
    exact ⟨a2, c2, w', hr, hR, hO⟩
end Go.Proofs.YtjfmbjgniajagaaGreatDoor

namespace Go.Proofs.YtjfmbjgniajagaaGreatDoor
open Go.RowKit

theorem ofM_upd (x : Itm) (m : Met) : updItm x m = ⟨x.name, x.has, x.al, x.ty, (ofM m).null, (ofM m).vk, (ofM m).vn, (ofM m).vs⟩ := by
  rw [ofM_eq]; rfl
set_option maxRecDepth 100000 in
set_option maxHeartbeats 16000000 in
theorem rupd_any (a : Option Addr) (L : List Itm) (cap : Nat) (am : Option Addr) (M : List Met) (capm : Nat) (xb : Nat) (v : Value) (R : ATab) (ow : ByteArray) (w : World) (h : ItemsAt w a L) (hM : MetsAt w am M) (hT : RTab w xb v R) (hRl : R.length ≤ 1000000) (hb : L.length * 72 ≤ 140737488351232) :
    Calls Tryz.prog 72 #[.slice a L.length cap, .slice am M.length capm, .pointer (some ⟨xb, 0, none⟩), .string ow] w (Born2Post (updGo (rFind R ow) M L) w) := by
  have hlm := hM.1
  have hl := h.1
  obtain ⟨oa, oc, wo, hap, hRo, hOo⟩ := app_copy w a L cap h hb
  generalize hr : updGo (rFind R ow) M L = r
  replace hr := Lib.hid hr
  replace hM := Lib.hid hM
  replace hT := Lib.hid hT
  replace hap := Lib.hid hap
  replace hRo := Lib.hid hRo
  replace hOo := Lib.hid hOo
  clear h
  obtain ⟨N, hN⟩ : ∃ N, N = L.length := ⟨_, rfl⟩
  rw [← hN] at hb hl hap ⊢
  replace hN := Lib.hid hN
  go_enter Tryz.func72, Tryz.ntmps72
  go_wp2_with (at_builtin; refine wpList_append_of rfl (.tmp 17) (.tmp 18) 42 42 42 rfl rfl rfl rfl hap.out ?_)
  go_loopg [11] M.length (fun g s11 wr => ∃ (k : Nat) (Lk : List Itm), k ≤ M.length ∧ g = M.length - k ∧ s11 = .int .i64 k ∧
      Aside (Lk.length = N ∧ OutRow w.heap.size wr oa oc Lk ∧ Own [] w wr ∧ updGo (rFind R ow) (M.drop k) Lk = r))
  case atStart => exact ⟨0, L, by omega, by omega, rfl, hN.out.symm, hRo.out, hOo.out, hr.out⟩
  case round =>
    obtain ⟨k, Lk, hk, rfl, rfl, hL, hR, hO, hG⟩ := hrel
    clear hr hRo hOo
    by_cases hlt : k < M.length
    · obtain ⟨b, o, rfl, hbl, hwf, hc⟩ := (hM.out.nil' hO).met hlt
      rw [List.drop_eq_getElem_cons hlt] at hG
      generalize M[k] = x at hc hG hwf
      have F1 := rfind_any xb v R ow x.al wr (hT.out.nil' hO) hRl
      have hPl := fun n => itPlace_lt Lk n
      have hpi : ∀ n, itPlace Lk n = (match itIdx Lk n with | some i => (i : Int) | none => -1) := fun n => rfl
      have hP := fun (n : ByteArray) => rplace_any oa Lk oc n wr (hR.at_ (by omega))
      rw [hL] at hP hPl
      have hOf := rof_any x wr
      unfold OfPost at hOf
      have hu := fun y => ofM_upd y x
      have huw : ∀ y : Itm, y.wf → (updItm y x).wf := fun y hy => updItm_wf hy hwf
      unfold updGo at hG
      generalize hUF : (fun y => updItm y x) = uf at *
      have hUF2 : ∀ y, updItm y x = uf y := fun y => by rw [← hUF]
      simp only [hUF2] at hG hu huw
      clear hUF hUF2
      unfold nameOf at hG
      generalize rFind R ow x.al = fr at F1 hG
      obtain ⟨fn, fk⟩ := fr
      generalize ofM x = ix at hOf hu
      obtain ⟨inm, ihs, ial, ity, inu, ivk, ivn, ivs⟩ := ix
      obtain ⟨nm, hs, al, ti, ty, hi_, tr, nu, ⟨x1, y1, z1⟩, ⟨x2, y2, z2⟩, vk, vn, vs, ⟨x3, y3, z3⟩, ⟨x4, y4, z4⟩⟩ := x
      have c0 := hc 0 _ rfl
      have c1 := hc 1 _ rfl
      have c2 := hc 2 _ rfl
      have c3 := hc 3 _ rfl
      have c4 := hc 4 _ rfl
      have c5 := hc 5 _ rfl
      have c6 := hc 6 _ rfl
      have c7 := hc 7 _ rfl
      have c8 := hc 8 _ rfl
      have c9 := hc 9 _ rfl
      have c10 := hc 10 _ rfl
      have c11 := hc 11 _ rfl
      have c12 := hc 12 _ rfl
      have c13 := hc 13 _ rfl
      have c14 := hc 14 _ rfl
      simp only [Nat.add_zero] at c0 c1 c2 c3 c4 c5 c6 c7 c8 c9 c10 c11 c12 c13 c14
      unfold Met.val Met.cells Itm.val Itm.cells at hOf
      simp only at hOf hG hu F1
      replace F1 := Lib.hid F1
      replace hG := Lib.hid hG
      replace hu := Lib.hid hu
      replace huw := Lib.hid huw
      replace hOf := Lib.hid hOf
      replace hP := Lib.hid hP
      replace hPl := Lib.hid hPl
      replace hpi := Lib.hid hpi
      replace hR := Lib.hid hR
      replace hO := Lib.hid hO
      replace hL := Lib.hid hL
      clear hc hwf
      obtain ⟨n', hgood⟩ : ∃ n', n' = (if nm.toList.isEmpty then fn else nm) := ⟨_, rfl⟩
      by_cases hne : nm.toList.isEmpty = true
      · rw [if_pos hne] at hgood
        subst hgood
        cases hs
        · have hr7 : r = (7, []) := by have := hG.out; simp only [if_pos hne] at this; simpa using this.symm
          replace hr7 := Lib.hid hr7
          clear hG c3 c4 c5 c6 c7 c8 c9 c10 c11 c12 c13 c14
          go_wp2_with fail
          go_ret2
          rw [hr7.out]
          exact ⟨none, 0, rfl, OutRow.nil _ _, hO.out⟩
        · cases fk
          · have hr6 : r = (6, []) := by have := hG.out; simp only [if_pos hne] at this; simpa using this.symm
            replace hr6 := Lib.hid hr6
            clear hG c3 c4 c5 c6 c7 c8 c9 c10 c11 c12 c13 c14
            go_wp2_with fail
            refine F1.out.mono ?_
            rintro e w' ⟨rfl, rfl⟩
            go_wp2_with fail
            go_ret2
            rw [hr6.out]
            exact ⟨none, 0, rfl, OutRow.nil _ _, hO.out⟩
          · have hG2 : (match itIdx Lk n' with | some i => updGo (rFind R ow) (M.drop (k + 1)) (Lk.set i (uf (itAt Lk i))) | none => (7, [])) = r := by have := hG.out; simp only [if_pos hne, if_true] at this; exact this
            replace hG2 := Lib.hid hG2
            have P1 := hP.out n'
            have hPl1 := hPl.out n'
            have hpi1 := hpi.out n'
            clear hG hP hPl hpi
            cases hidx : itIdx Lk n' with
            | none =>
              have hpv : itPlace Lk n' = -1 := by rw [hpi1, hidx]
              have hr7 : r = (7, []) := by have := hG2.out; rw [hidx] at this; exact this.symm
              rw [hpv] at P1
              replace hr7 := Lib.hid hr7
              replace P1 := Lib.hid P1
              clear hpi1 hPl1 hG2 hidx hpv c3 c4 c5 c6 c7 c8 c9 c10 c11 c12 c13 c14
              go_wp2_with fail
              refine F1.out.mono ?_
              rintro e w' ⟨rfl, rfl⟩
              go_wp2_with fail
              refine P1.out.mono ?_
              rintro e w' ⟨rfl, rfl⟩
              go_wp2_with fail
              go_ret2
              rw [hr7.out]
              exact ⟨none, 0, rfl, OutRow.nil _ _, hO.out⟩
            | some i =>
              have hpv : itPlace Lk n' = i := by rw [hpi1, hidx]
              have hG3 : updGo (rFind R ow) (M.drop (k + 1)) (Lk.set i (uf (itAt Lk i))) = r := by have := hG2.out; rw [hidx] at this; exact this
              have hiN : i < N := by rw [← hL.out]; exact (itIdx_lt hidx).1
              obtain ⟨g, rfl, hgw, hRow⟩ := hR.out.form (by rw [hL.out]; omega)
              have hgl := hRow.lt
              rw [hpv] at P1
              have q0 : (0 : Int) ≤ i := by omega
              have q1 : (i : Int) < N := by omega
              have hi' : i < Lk.length := by rw [hL.out]; exact hiN
              have hget := itAt_get hi'
              have hxw : (itAt Lk i).wf := hR.out.good _ (List.mem_of_getElem? hget)
              have hy := fun (W : World) (ho : Own [] wr W) (c : Nat) (v : Value) (hv : (itAt Lk i).cells[c]? = some v) => (hRow.own ho (by simp)).cell Itm.cells_len hget hv
              have hfz := fun (W : World) (ho : Own [] wr W) (j : Nat) => (hRow.own ho (by simp)).frozen j
              have hset := fun (W : World) (ho : Own [] wr W) (nm hs al ty nu0 vk0 vn0 vs0) (nu vk vn vs) (he : itAt Lk i = ⟨nm, hs, al, ty, nu0, vk0, vn0, vs0⟩) => itm_set (nu := nu) (vk := vk) (vn := vn) (vs := vs) (hRow.own ho (by simp)) hi' he
              have hu2 := hu.out (itAt Lk i)
              have hw2 := huw.out _ hxw
              generalize hxi : itAt Lk i = y at hy hset hG3 hu2 hw2
              obtain ⟨nm', hs', al', ty', nu', vk', vn', vs'⟩ := y
              have hsetF := fun (W : World) (ho : Own [] wr W) => hset W ho _ _ _ _ _ _ _ _ inu ivk ivn ivs rfl
              simp only at hu2
              rw [hu2] at hG3 hw2
              replace hG3 := Lib.hid hG3
              replace hw2 := Lib.hid hw2
              replace hsetF := Lib.hid hsetF
              replace hy := Lib.hid hy
              replace hfz := Lib.hid hfz
              replace P1 := Lib.hid P1
              clear hset hxi hget hxw hRow hpi1 hPl1 hG2 hidx hpv hu2
              go_wp2_with fail
              refine F1.out.mono ?_
              rintro e w' ⟨rfl, rfl⟩
              go_wp2_with fail
              refine P1.out.mono ?_
              rintro e w' ⟨rfl, rfl⟩
              go_wp2_with fail
              refine hOf.out.mono ?_
              rintro e w2 ⟨rfl, hO2⟩
              have hgl2 : g < w2.heap.size := Nat.lt_of_lt_of_le hgl hO2.size
              have hgne : g ≠ w2.heap.size := by omega
              have hO8 : Own [] wr (w2.alloc (.cells #[.string inm, .bool ihs, .int .u64 ial, .int .u32 ity, .bool inu, .int .i64 ivk, .int .u64 ivn, .string ivs] 83)) := hO2.alloc _
              have y4 := hy.out w2 hO2 4 _ rfl
              have y5 := hy.out w2 hO2 5 _ rfl
              have y6 := hy.out w2 hO2 6 _ rfl
              have y7 := hy.out w2 hO2 7 _ rfl
              have z4 := hfz.out w2 hO2 (i * 8 + 4)
              have z5 := hfz.out w2 hO2 (i * 8 + 5)
              have z6 := hfz.out w2 hO2 (i * 8 + 6)
              have z7 := hfz.out w2 hO2 (i * 8 + 7)
              have Y4 := hy.out _ hO8 4 _ rfl
              have Y5 := hy.out _ hO8 5 _ rfl
              have Y6 := hy.out _ hO8 6 _ rfl
              have Y7 := hy.out _ hO8 7 _ rfl
              have Z4 := hfz.out _ hO8 (i * 8 + 4)
              have Z5 := hfz.out _ hO8 (i * 8 + 5)
              have Z6 := hfz.out _ hO8 (i * 8 + 6)
              have Z7 := hfz.out _ hO8 (i * 8 + 7)
              clear c0 c1 c2 c3 c4 c5 c6 c7 c8 c9 c10 c11 c12 c13 c14 hy hfz
              replace hO2 := Lib.hid hO2
              replace hO8 := Lib.hid hO8
              have R1 := hsetF.out w2 hO2.out
              have O1 : Own [] w ((((w2.setCell ⟨g, i * 8 + 4, none⟩ (.bool inu)).setCell ⟨g, i * 8 + 5, none⟩ (.int .i64 ivk)).setCell ⟨g, i * 8 + 6, none⟩ (.int .u64 ivn)).setCell ⟨g, i * 8 + 7, none⟩ (.string ivs)) :=
                ((((hO.out.trans hO2.out).setCell (.inr hgw) _).setCell (.inr hgw) _).setCell (.inr hgw) _).setCell (.inr hgw) _
              have R2 := (hR.out.set R1 hw2.out).nil' ((Own.refl [] _).alloc (.cells #[.string inm, .bool ihs, .int .u64 ial, .int .u32 ity, .bool inu, .int .i64 ivk, .int .u64 ivn, .string ivs] 83))
              have O2 := O1.alloc (.cells #[.string inm, .bool ihs, .int .u64 ial, .int .u32 ity, .bool inu, .int .i64 ivk, .int .u64 ivn, .string ivs] 83)
              replace R2 := Lib.hid R2
              replace O2 := Lib.hid O2
              clear R1 O1 hsetF
              go_wp2_with fail
              go_roundg (M.length - (k + 1))
              case measure => omega
              case rel => exact ⟨k + 1, _, by omega, rfl, by go_num, by rw [List.length_set]; exact hL.out, R2.out, O2.out, hG3.out⟩
      · rw [if_neg hne] at hgood
        subst hgood
        have hG2 : (match itIdx Lk n' with | some i => updGo (rFind R ow) (M.drop (k + 1)) (Lk.set i (uf (itAt Lk i))) | none => (7, [])) = r := by have := hG.out; simp only [if_neg hne, if_true] at this; exact this
        have hne' : n'.toList.isEmpty = false := by simpa using hne
        clear hne
        replace hG2 := Lib.hid hG2
        have P1 := hP.out n'
        have hPl1 := hPl.out n'
        have hpi1 := hpi.out n'
        clear hG hP hPl hpi
        cases hidx : itIdx Lk n' with
        | none =>
          have hpv : itPlace Lk n' = -1 := by rw [hpi1, hidx]
          have hr7 : r = (7, []) := by have := hG2.out; rw [hidx] at this; exact this.symm
          rw [hpv] at P1
          replace hr7 := Lib.hid hr7
          replace P1 := Lib.hid P1
          clear hpi1 hPl1 hG2 hidx hpv c3 c4 c5 c6 c7 c8 c9 c10 c11 c12 c13 c14
          go_wp2_with fail
          refine P1.out.mono ?_
          rintro e w' ⟨rfl, rfl⟩
          go_wp2_with fail
          go_ret2
          rw [hr7.out]
          exact ⟨none, 0, rfl, OutRow.nil _ _, hO.out⟩
        | some i =>
          have hpv : itPlace Lk n' = i := by rw [hpi1, hidx]
          have hG3 : updGo (rFind R ow) (M.drop (k + 1)) (Lk.set i (uf (itAt Lk i))) = r := by have := hG2.out; rw [hidx] at this; exact this
          have hiN : i < N := by rw [← hL.out]; exact (itIdx_lt hidx).1
          obtain ⟨g, rfl, hgw, hRow⟩ := hR.out.form (by rw [hL.out]; omega)
          have hgl := hRow.lt
          rw [hpv] at P1
          have q0 : (0 : Int) ≤ i := by omega
          have q1 : (i : Int) < N := by omega
          have hi' : i < Lk.length := by rw [hL.out]; exact hiN
          have hget := itAt_get hi'
          have hxw : (itAt Lk i).wf := hR.out.good _ (List.mem_of_getElem? hget)
          have hy := fun (W : World) (ho : Own [] wr W) (c : Nat) (v : Value) (hv : (itAt Lk i).cells[c]? = some v) => (hRow.own ho (by simp)).cell Itm.cells_len hget hv
          have hfz := fun (W : World) (ho : Own [] wr W) (j : Nat) => (hRow.own ho (by simp)).frozen j
          have hset := fun (W : World) (ho : Own [] wr W) (nm hs al ty nu0 vk0 vn0 vs0) (nu vk vn vs) (he : itAt Lk i = ⟨nm, hs, al, ty, nu0, vk0, vn0, vs0⟩) => itm_set (nu := nu) (vk := vk) (vn := vn) (vs := vs) (hRow.own ho (by simp)) hi' he
          have hu2 := hu.out (itAt Lk i)
          have hw2 := huw.out _ hxw
          generalize hxi : itAt Lk i = y at hy hset hG3 hu2 hw2
          obtain ⟨nm', hs', al', ty', nu', vk', vn', vs'⟩ := y
          have hsetF := fun (W : World) (ho : Own [] wr W) => hset W ho _ _ _ _ _ _ _ _ inu ivk ivn ivs rfl
          simp only at hu2
          rw [hu2] at hG3 hw2
          replace hG3 := Lib.hid hG3
          replace hw2 := Lib.hid hw2
          replace hsetF := Lib.hid hsetF
          replace hy := Lib.hid hy
          replace hfz := Lib.hid hfz
          replace P1 := Lib.hid P1
          clear hset hxi hget hxw hRow hpi1 hPl1 hG2 hidx hpv hu2
          go_wp2_with fail
          refine P1.out.mono ?_
          rintro e w' ⟨rfl, rfl⟩
          go_wp2_with fail
          refine hOf.out.mono ?_
          rintro e w2 ⟨rfl, hO2⟩
          have hgl2 : g < w2.heap.size := Nat.lt_of_lt_of_le hgl hO2.size
          have hgne : g ≠ w2.heap.size := by omega
          have hO8 : Own [] wr (w2.alloc (.cells #[.string inm, .bool ihs, .int .u64 ial, .int .u32 ity, .bool inu, .int .i64 ivk, .int .u64 ivn, .string ivs] 83)) := hO2.alloc _
          have y4 := hy.out w2 hO2 4 _ rfl
          have y5 := hy.out w2 hO2 5 _ rfl
          have y6 := hy.out w2 hO2 6 _ rfl
          have y7 := hy.out w2 hO2 7 _ rfl
          have z4 := hfz.out w2 hO2 (i * 8 + 4)
          have z5 := hfz.out w2 hO2 (i * 8 + 5)
          have z6 := hfz.out w2 hO2 (i * 8 + 6)
          have z7 := hfz.out w2 hO2 (i * 8 + 7)
          have Y4 := hy.out _ hO8 4 _ rfl
          have Y5 := hy.out _ hO8 5 _ rfl
          have Y6 := hy.out _ hO8 6 _ rfl
          have Y7 := hy.out _ hO8 7 _ rfl
          have Z4 := hfz.out _ hO8 (i * 8 + 4)
          have Z5 := hfz.out _ hO8 (i * 8 + 5)
          have Z6 := hfz.out _ hO8 (i * 8 + 6)
          have Z7 := hfz.out _ hO8 (i * 8 + 7)
          clear c0 c1 c2 c3 c4 c5 c6 c7 c8 c9 c10 c11 c12 c13 c14 hy hfz
          replace hO2 := Lib.hid hO2
          replace hO8 := Lib.hid hO8
          have R1 := hsetF.out w2 hO2.out
          have O1 : Own [] w ((((w2.setCell ⟨g, i * 8 + 4, none⟩ (.bool inu)).setCell ⟨g, i * 8 + 5, none⟩ (.int .i64 ivk)).setCell ⟨g, i * 8 + 6, none⟩ (.int .u64 ivn)).setCell ⟨g, i * 8 + 7, none⟩ (.string ivs)) :=
            ((((hO.out.trans hO2.out).setCell (.inr hgw) _).setCell (.inr hgw) _).setCell (.inr hgw) _).setCell (.inr hgw) _
          have R2 := (hR.out.set R1 hw2.out).nil' ((Own.refl [] _).alloc (.cells #[.string inm, .bool ihs, .int .u64 ial, .int .u32 ity, .bool inu, .int .i64 ivk, .int .u64 ivn, .string ivs] 83))
          have O2 := O1.alloc (.cells #[.string inm, .bool ihs, .int .u64 ial, .int .u32 ity, .bool inu, .int .i64 ivk, .int .u64 ivn, .string ivs] 83)
          replace R2 := Lib.hid R2
          replace O2 := Lib.hid O2
          clear R1 O1 hsetF
          go_wp2_with fail
          go_roundg (M.length - (k + 1))
          case measure => omega
          case rel => exact ⟨k + 1, _, by omega, rfl, by go_num, by rw [List.length_set]; exact hL.out, R2.out, O2.out, hG3.out⟩
    · obtain rfl : k = M.length := by omega
      rw [List.drop_eq_nil_of_le (Nat.le_refl _)] at hG
      have hr1 : r = (1, Lk) := by unfold updGo at hG; exact hG.symm
      replace hr1 := Lib.hid hr1
      replace hR := Lib.hid hR
      replace hO := Lib.hid hO
      replace hL := Lib.hid hL
      clear hG
      go_wp2_with fail
      go_ret2
      rw [hr1.out]
      exact ⟨oa, oc, by simp only [hL.out]; rfl, hR.out, hO.out⟩
end Go.Proofs.YtjfmbjgniajagaaGreatDoor
