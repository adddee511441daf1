/- ItemsStay: no name comes or goes. -/
import Derived.Test.YtggcfehghgpjmaaDoorItemsAwake
import Derived.Deep.Upon
namespace Go.Proofs.YtggcfehghgpjmaaDoor
open Go.RowKit
attribute [local go_sem ↓] Go.wp_at_zero Go.wp_at_succ

/-! ### plain -/
theorem bornGo_code : ∀ (M : List Met) (out : List Itm), (bornGo M out).1 ≠ 1 → (bornGo M out).2 = [] ∧ 3 ≤ (bornGo M out).1
  | [], out, h => by simp [bornGo] at h
  | m :: r, out, h => by
    unfold bornGo at h ⊢
    split
    · simp
    · split
      · simp
      · rename_i h1 h2
        rw [if_neg h1, if_neg h2] at h
        exact bornGo_code r _ h
theorem bornL_code (M : List Met) (h : (bornL M).1 ≠ 1) : (bornL M).2 = [] ∧ 3 ≤ (bornL M).1 := by
  unfold bornL at h ⊢
  split
  · simp
  · rename_i h1
    rw [if_neg h1] at h
    exact bornGo_code _ _ h
theorem nameOf_code (F : Int → ByteArray × Bool) (m : Met) (h : (nameOf F m).1 ≠ 1) : 3 ≤ (nameOf F m).1 := by
  unfold nameOf at h ⊢
  split
  · split
    · split
      · rename_i h1 h2 h3; rw [if_pos h1, if_pos h2, if_pos h3] at h; simp at h
      · simp
    · simp
  · rename_i h1; rw [if_neg h1] at h; simp at h
theorem updGo_code (F : Int → ByteArray × Bool) : ∀ (M : List Met) (out : List Itm), (updGo F M out).1 ≠ 1 → (updGo F M out).2 = [] ∧ 3 ≤ (updGo F M out).1
  | [], out, h => by simp [updGo] at h
  | m :: r, out, h => by
    unfold updGo at h ⊢
    by_cases h1 : (nameOf F m).1 = 1
    · rw [if_pos h1] at h ⊢
      cases hi : itIdx out (nameOf F m).2 with
      | none => simp
      | some i => rw [hi] at h; exact updGo_code F r _ h
    · rw [if_neg h1]
      exact ⟨rfl, nameOf_code F m h1⟩
/-- Name, alias and type are the same. -/
def likeIt (x y : Itm) : Prop := x.name = y.name ∧ x.has = y.has ∧ x.al = y.al ∧ x.ty = y.ty
theorem updItm_like (x : Itm) (m : Met) : likeIt (updItm x m) x := ⟨rfl, rfl, rfl, rfl⟩
theorem itAt_set {L : List Itm} {i j : Nat} {x : Itm} (hi : i < L.length) : itAt (L.set i x) j = if i = j then x else itAt L j := by
  unfold itAt
  simp only [List.getD, List.getElem?_set]
  by_cases hij : i = j
  · subst hij; simp [hi]
  · simp [hij]
theorem updGo_stay (F : Int → ByteArray × Bool) (hF : ∀ a, (F a).2 = false) : ∀ (M : List Met) (out N : List Itm), updGo F M out = (1, N) → N.length = out.length ∧ ∀ j, j < out.length → likeIt (itAt N j) (itAt out j) ∧ (M.any (fun m => m.name == (itAt out j).name) = false → itAt N j = itAt out j)
  | [], out, N, h => by
    simp [updGo] at h
    subst h
    exact ⟨rfl, fun j _ => ⟨⟨rfl, rfl, rfl, rfl⟩, fun _ => rfl⟩⟩
  | m :: r, out, N, h => by
    unfold updGo at h
    by_cases h1 : (nameOf F m).1 = 1
    · rw [if_pos h1] at h
      cases hi : itIdx out (nameOf F m).2 with
      | none => rw [hi] at h; simp at h
      | some i =>
        rw [hi] at h
        obtain ⟨hil, hin⟩ := itIdx_lt hi
        obtain ⟨k1, k2⟩ := updGo_stay F hF r _ N h
        rw [List.length_set] at k1 k2
        refine ⟨k1, fun j hj => ?_⟩
        obtain ⟨k3, k4⟩ := k2 j hj
        rw [itAt_set hil] at k3 k4
        have hnm : (nameOf F m).2 = m.name := by
          unfold nameOf at h1 ⊢
          split
          · rename_i he
            rw [if_pos he] at h1
            split
            · rename_i hh
              rw [if_pos hh, hF] at h1
              simp at h1
            · rename_i hh
              rw [if_neg hh] at h1
              simp at h1
          · rfl
        by_cases hij : i = j
        · subst hij
          rw [if_pos rfl] at k3 k4
          refine ⟨k3, fun hno => ?_⟩
          simp only [List.any_cons, Bool.or_eq_false_iff] at hno
          rw [← hnm, hin] at hno
          simp at hno
        · rw [if_neg hij] at k3 k4
          refine ⟨k3, fun hno => k4 ?_⟩
          simp only [List.any_cons, Bool.or_eq_false_iff] at hno
          exact hno.2
    · rw [if_neg h1] at h
      simp only [Prod.mk.injEq] at h
      exact absurd h.1 h1
theorem aFind_nil (ow : ByteArray) (a : Int) : aFind [] ow a = (ByteArray.empty, false) := rfl

/-! ### a copy by append -/
/-- An append whose run is known. -/
theorem wpList_append_of {P : Program} {ops : Array Oper} {rest : List Oper} {o : Oper} {a : Act} {w w' : World} {Q : Exit → Act → World → Prop} (hgd : o.guard = none) (s x : Operand) (t tx ty : TypeId) (hty : o.type = ty)
    (ho : o.op = .call { callee := .builtin .append, args := #[s, x], argTypes := #[t, tx] }) {vs vx v : Value} (hs : a.eval s = vs) (hx : a.eval x = vx) (hr : (Builtin.append_ #[t, tx] ty #[vs, vx]).run P w = .ok v w')
    (h : wpList P ops Q rest (a.put o.dst v) w') : wpList P ops Q (o :: rest) a w := by
  subst hty
  refine wpList_plain hgd fun K hK => ?_
  unfold Oper.wp execOp
  simp only [ho, resolve, invoke, builtin, Sem.run_bind, Sem.run_pure, Result.andThen_ok, List.map_toArray, List.map_cons, List.map_nil, hs, hx, hr]
  exact hK _ _ h
theorem app_copy (w : World) (a : Option Addr) (L : List Itm) (cap : Nat) (h : ItemsAt w a L) (hb : L.length * 72 ≤ 140737488351232) :
    ∃ ao co wo, (Builtin.append_ #[33, 33] 33 #[.slice (some ⟨w.heap.size, 0, none⟩) 0 0, .slice a L.length cap]).run Tryd.prog (w.alloc (.cells #[] 37)) = .ok (.slice ao L.length co) wo ∧
      OutRow w.heap.size wo ao co L ∧ Own [] w wo := by
  obtain ⟨i0, hi, hz0, hz1, hz2⟩ := info_parts itmInfo
  have hA : Own [] w (w.alloc (.cells #[] 37)) := (Own.refl _ _).alloc _
  have hown := owns_empty (T := 37) (k := 8) w
  cases a with
  | none =>
    have h0 : L = [] := by
      cases L with
      | nil => rfl
      | cons x r => obtain ⟨b, o, e, _⟩ := h.2 (by simp); cases e
    subst h0
    refine ⟨some ⟨w.heap.size, 0, none⟩, 0, _, run_append_nothing _ _ _ _ _ i0 Tryd.underlying33 hi _ 0 0 (Nat.le_refl _) _ (Src.ofNil _ Tryd.underlying33 cap), ⟨?_, fun q hq => by simp at hq; subst hq; exact Nat.le_refl _, by simp⟩, hA⟩
    simpa [rowOf] using hown
  | some ad =>
    obtain ⟨v', w', hr, h2, h3, h4, h5⟩ := run_append_own_at (P := Tryd.prog) _ 0 33 33 37 i0 _ 8 72 Tryd.underlying33 hi hz0 hz1 hz2 rfl (by omega) _ 0 [] hown ad L.length cap (rowOf Itm.cells L) (rowOf_len Itm.cells_len L) (RowsAt.flat Itm.cells_len (h.nil' hA)) (itmRow_one L) (by have := h.1; unfold maxLen; omega) (by omega) (Nat.zero_le _)
    obtain ⟨a2, c2, rfl, hR, hO⟩ := out_of_append h.all_good hA (Nat.le_refl _) h2 h3 h4 h5
    exact ⟨a2, c2, w', hr, hR, hO⟩

set_option maxRecDepth 100000 in
set_option maxHeartbeats 16000000 in
theorem itemsStay_walk (a0 : Option Addr) (L0 : List Met) (c0 : Nat) (am : Option Addr) (M : List Met) (cm : Nat) (w : World) (h0 : MetsAt w a0 L0) (hM : MetsAt w am M) (hE : Errs w) :
    Calls Tryd.prog 4 #[.slice a0 L0.length c0, .slice am M.length cm] w fun e w' => e = .returned (.bool true) ∧ Below w.heap.size w w' := by
  have B1 := bornp_any a0 L0 c0 w h0 hE
  have hle := bornL_le L0
  have hcode := bornL_code L0
  have hlm := hM.1
  generalize bornL L0 = r at B1 hle hcode
  obtain ⟨rc, L⟩ := r
  unfold Born2Post at B1
  simp only at B1 hle hcode
  replace B1 := Lib.hid B1
  replace hcode := Lib.hid hcode
  replace hE := Lib.hid hE
  replace hM := Lib.hid hM
  clear h0
  go_enter Tryd.func4, Tryd.ntmps4
  go_wp2_with fail
  refine B1.out.mono ?_
  rintro e w1 ⟨a1, c1, rfl, hR1, hO1⟩
  replace hR1 := Lib.hid hR1
  replace hO1 := Lib.hid hO1
  clear B1
  by_cases hrc : rc = 1
  · have hrc1 : ((rc : Int) != 1) = false := by simpa using hrc
    obtain ⟨ao, co, wo, hap, hRo, hOo⟩ := app_copy w1 a1 L c1 (hR1.out.at_ (by omega)) (by omega)
    have hRl := hR1.out.nil' hOo
    have hO2 := hO1.out.trans hOo
    replace hRo := Lib.hid hRo
    replace hRl := Lib.hid hRl
    replace hO2 := Lib.hid hO2
    replace hap := Lib.hid hap
    clear hcode hrc hOo hO1 hR1
    go_wp2_with (at_builtin; refine wpList_append_of rfl (.tmp 30) (.tmp 31) 33 33 33 rfl rfl rfl rfl hap.out ?_)
    refine (new_any _).mono ?_
    rintro e w2 ⟨tb, tm, rfl, hT, _, _, hO3⟩
    have hRo2 := hRo.out.nil' hO3
    have hRl2 := hRl.out.nil' hO3
    have hO4 := hO2.out.trans hO3
    have U := updp_any a1 L c1 am M cm tb tm [] ⟨#[]⟩ w2 (hRl2.at_ (by omega)) (hM.out.nil' hO4) hT (by omega) (hE.out.nil hO4)
    have hcode2 := updGo_code (aFind [] ⟨#[]⟩) M L
    have hstay := updGo_stay (aFind [] ⟨#[]⟩) (fun a => rfl) M L
    generalize updGo (aFind [] ⟨#[]⟩) M L = r2 at U hcode2 hstay
    obtain ⟨rd, N⟩ := r2
    unfold Born2Post at U
    simp only at U hcode2 hstay
    replace U := Lib.hid U
    replace hcode2 := Lib.hid hcode2
    replace hstay := Lib.hid hstay
    replace hRo2 := Lib.hid hRo2
    replace hRl2 := Lib.hid hRl2
    replace hO4 := Lib.hid hO4
    clear hT hO3 hRo hRl hO2 hap
    go_wp2_with fail
    refine U.out.mono ?_
    rintro e w3 ⟨a3, c3, rfl, hRn, hO5⟩
    have hRo3 := hRo2.out.nil' hO5
    have hRl3 := hRl2.out.nil' hO5
    have hO6 := hO4.out.trans hO5
    have SM := same_any a1 L c1 ao L co w3 (hRl3.at_ (by omega)) (hRo3.at_ (by omega))
    rw [itSame_refl] at SM
    replace SM := Lib.hid SM
    replace hRn := Lib.hid hRn
    replace hRl3 := Lib.hid hRl3
    replace hO6 := Lib.hid hO6
    clear hRo3 hRo2 hRl2 hO5 hO4 U
    go_wp2_with fail
    refine SM.out.mono ?_
    rintro e w4 ⟨rfl, hO7⟩
    have hRn4 := hRn.out.nil' hO7
    have hRl4 := hRl3.out.nil' hO7
    have hO8 := hO6.out.trans hO7
    have hE4 := hE.out.nil hO8
    have hM4 := hM.out.nil' hO8
    replace hRn4 := Lib.hid hRn4
    replace hRl4 := Lib.hid hRl4
    replace hO8 := Lib.hid hO8
    replace hE4 := Lib.hid hE4
    replace hM4 := Lib.hid hM4
    clear SM hRn hRl3 hO6 hO7 hE hM
    by_cases hrd : rd = 1
    · have hrd1 : ((rd : Int) != 1) = false := by simpa using hrd
      obtain ⟨hlen, hst⟩ := hstay.out N (by rw [hrd])
      replace hst := Lib.hid hst
      have hln := hRn4.out.at_ (by omega)
      have hll := hRl4.out.at_ (by omega)
      rw [hlen]
      replace hln := Lib.hid hln
      replace hll := Lib.hid hll
      replace hlen := Lib.hid hlen
      clear hstay hcode2 hrd hRn4 hRl4
      go_wp2_with fail
      go_loopg [10] L.length (fun g s10 wr => ∃ i : Nat, i ≤ L.length ∧ g = L.length - i ∧ s10 = .int .i64 i ∧ Aside (Own [] w4 wr))
      case atStart => exact ⟨0, by omega, by omega, rfl, Own.refl _ _⟩
      case round =>
        obtain ⟨i, hi, rfl, rfl, hOi⟩ := hrel
        have hOi' : Own [] w4 wr := hOi
        replace hOi' := Lib.hid hOi'
        by_cases hil : i < L.length
        · obtain ⟨wa, rfl⟩ : ∃ wa : World, wa = wr := ⟨_, rfl⟩
          obtain ⟨b1, o1, rfl, hb1, _, hc1⟩ := (hll.out.nil' hOi'.out).item hil
          obtain ⟨b2, o2, rfl, hb2, _, hc2⟩ := (hln.out.nil' hOi'.out).item (show i < N.length by have := hlen.out; omega)
          obtain ⟨hlk, hsm⟩ := hst.out i hil
          generalize itAt L i = x at hc1 hlk hsm
          generalize itAt N i = y at hc2 hlk hsm
          obtain ⟨nm, hs, al, ty, nu, vk, vn, vs⟩ := x
          obtain ⟨nm', hs', al', ty', nu', vk', vn', vs'⟩ := y
          obtain ⟨k1, k2, k3, k4⟩ := hlk
          simp only at k1 k2 k3 k4 hsm
          subst k1 k2 k3 k4
          have hbi : (0 : Int) ≤ i := by omega
          have hbl : (i : Int) < L.length := by omega
          replace hc1 := Lib.hid hc1
          replace hc2 := Lib.hid hc2
          replace hsm := Lib.hid hsm
          go_wp2_with fail
          go_loopg [11, 12] M.length (fun g s11 s12 wr => ∃ k : Nat, k ≤ M.length ∧ g = M.length - k ∧ s12 = .int .i64 k ∧ s11 = .bool ((M.take k).any (fun m => m.name == nm')) ∧ Aside (Own [] wa wr))
          case atStart => exact ⟨0, by omega, by omega, rfl, rfl, Own.refl _ _⟩
          case round =>
            obtain ⟨k, hk, rfl, rfl, rfl, hOk⟩ := hrel
            have hOk' : Own [] wa wr := hOk
            replace hOk' := Lib.hid hOk'
            by_cases hkl : k < M.length
            · obtain ⟨bm, om, rfl, hbm, _, hcm⟩ := (hM4.out.nil' (hOi'.out.trans hOk'.out)).met hkl
              have hsn : (M.take (k + 1)).any (fun m => m.name == nm') = ((M.take k).any (fun m => m.name == nm') || (M[k].name == nm')) := by
                rw [List.take_succ_eq_append_getElem hkl, List.any_append]; simp
              have e0 := (At8.own (x := ⟨nm', hs', al', ty', nu, vk, vn, vs⟩) hc1.out hOk'.out hb1 (by simp)) 0 _ rfl
              have e1 := hcm 0 _ rfl
              generalize M[k].name = mn at e1 hsn
              simp only [Nat.add_zero] at e0 e1
              have hbk : (0 : Int) ≤ k := by omega
              have hbkl : (k : Int) < M.length := by omega
              generalize (M.take k).any (fun m => m.name == nm') = bb at hsn ⊢
              generalize hcq : (mn == nm') = cc at hsn
              rw [beq_toListBytes] at hcq
              replace hsn := Lib.hid hsn
              clear hcm
              cases bb
              · go_wp2_with fail
                go_quiet (fail)
                go_wp2_with fail
                go_roundg (M.length - (k + 1))
                case measure => omega
                case rel => exact ⟨k + 1, by omega, rfl, by go_num, by rw [hsn.out]; rfl, hOk'.out.drewN _⟩
              · go_wp2_with fail
                go_quiet (fail)
                go_wp2_with fail
                go_roundg (M.length - (k + 1))
                case measure => omega
                case rel => exact ⟨k + 1, by omega, rfl, by go_num, by rw [hsn.out]; rfl, hOk'.out.drewN _⟩
            · obtain rfl : k = M.length := by omega
              rw [List.take_length]
              have hOO := hOi'.out.trans hOk'.out
              obtain ⟨d0, d1, d2, d3, d4, d5, d6, d7⟩ := At8.all (At8.own hc1.out hOk'.out hb1 (by simp))
              obtain ⟨e0, e1, e2, e3, e4, e5, e6, e7⟩ := At8.all (At8.own hc2.out hOk'.out hb2 (by simp))
              generalize hbb : M.any (fun m => m.name == nm') = bb at hsm ⊢
              replace hbb := Lib.hid hbb
              replace hOO := Lib.hid hOO
              cases bb
              · have hyx := hsm.out rfl
                simp only [Itm.mk.injEq] at hyx
                obtain ⟨_, _, _, _, rfl, rfl, rfl, rfl⟩ := hyx
                have hq := fun W => run_neq_itm ⟨nm', hs', al', ty', nu', vk', vn', vs'⟩ ⟨nm', hs', al', ty', nu', vk', vn', vs'⟩ W
                rw [itEq_refl] at hq
                unfold Itm.val Itm.cells at hq
                go_wp2_with fail
                refine wp_region_quiet_lit (by kernel_rfl) (by kernel_rfl) ?_
                (try dsimp only [List.append])
                repeat (go_big_quiet_step (fail))
                refine wpQuiet_nil ?_
                intro _ hw'
                obtain ⟨nq, hw2⟩ := hw'
                subst hw2
                go_wp2_with fail
                go_roundg (L.length - (i + 1))
                case measure => omega
                case rel => exact ⟨i + 1, by omega, rfl, by go_num, hOO.out.drewN _⟩
              · go_wp2_with fail
                refine wp_region_quiet_lit (by kernel_rfl) (by kernel_rfl) ?_
                (try dsimp only [List.append])
                repeat (go_big_quiet_step (fail))
                refine wpQuiet_nil ?_
                intro _ hw'
                obtain ⟨nq, hw2⟩ := hw'
                subst hw2
                go_wp2_with fail
                go_roundg (L.length - (i + 1))
                case measure => omega
                case rel => exact ⟨i + 1, by omega, rfl, by go_num, hOO.out.drewN _⟩
        · obtain rfl : i = L.length := by omega
          have A := awake_any wr (hE4.out.nil hOi'.out)
          replace A := Lib.hid A
          go_wp2_with fail
          refine A.out.mono ?_
          rintro e w5 ⟨rfl, hO9⟩
          replace hO9 := Lib.hid ((hO8.out.trans hOi'.out).trans hO9)
          go_wp2_with fail
          go_ret
          exact ⟨rfl, hO9.out.below (Nat.le_refl _) (by simp)⟩
    · have hrd1 : ((rd : Int) != 1) = true := by simpa using hrd
      obtain ⟨hN, h3⟩ := hcode2.out hrd
      subst hN
      have A := awake_any w4 hE4.out
      replace A := Lib.hid A
      clear hcode2 hrd hstay
      go_wp2_with fail
      refine A.out.mono ?_
      rintro e w5 ⟨rfl, hO9⟩
      replace hO9 := Lib.hid (hO8.out.trans hO9)
      go_wp2_with fail
      go_ret
      exact ⟨rfl, hO9.out.below (Nat.le_refl _) (by simp)⟩
  · have hrc1 : ((rc : Int) != 1) = true := by simpa using hrc
    obtain ⟨hL, h3⟩ := hcode.out hrc
    subst hL
    have A := awake_any w1 (hE.out.nil hO1.out)
    replace A := Lib.hid A
    clear hcode hrc
    go_wp2_with fail
    refine A.out.mono ?_
    rintro e w2 ⟨rfl, hO2⟩
    replace hO2 := Lib.hid (hO1.out.trans hO2)
    go_wp2_with fail
    go_ret
    exact ⟨rfl, hO2.out.below (Nat.le_refl _) (by simp)⟩
end Go.Proofs.YtggcfehghgpjmaaDoor
