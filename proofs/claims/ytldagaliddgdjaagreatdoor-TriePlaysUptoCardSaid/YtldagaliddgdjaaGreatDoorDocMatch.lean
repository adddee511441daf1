/- crierref18: shy, wants, Match: the walks. -/
import Derived.Test.YtldagaliddgdjaaGreatDoorDocLv
namespace Go.Proofs.YtldagaliddgdjaaGreatDoor
open Go.RowKit Go.Lib Go.Shelf

theorem head_nat {s : ByteArray} (h : 0 < s.size) (c : UInt8) : (s.toList.head? == some c) = ((((s[0]'h).toNat : Nat) : Int) == (c.toNat : Int)) := by
  have hh : s.toList.head? = some (s.get! 0) := by rw [List.head?_eq_getElem?]; exact get_toList s 0 h
  rw [hh, get_is s 0 h, Bool.eq_iff_iff]
  simp [UInt8.toNat_inj, Int.natCast_inj]
set_option maxRecDepth 100000 in
set_option maxHeartbeats 4000000 in
theorem shy_any (f n : ByteArray) (w : World) (hf : 0 < f.size) (hn : 0 < n.size) :
    Calls Tryz.prog 51 #[.string f, .string n] w fun e w' => e = .returned (.bool (fWild f && lvHidden n)) ∧ w = w' := by
  unfold fWild lvHidden
  rw [head_nat hf, head_nat hf, head_nat hn]
  have k0 : (0 : Int) < f.size := by omega
  have k1 : (0 : Int) < n.size := by omega
  generalize hc : (f[0]'hf).toNat = c
  generalize hd : (n[0]'hn).toNat = d
  have e1 : (((43 : UInt8).toNat : Nat) : Int) = 43 := rfl
  have e2 : (((35 : UInt8).toNat : Nat) : Int) = 35 := rfl
  have e3 : (((36 : UInt8).toNat : Nat) : Int) = 36 := rfl
  rw [e1, e2, e3]
  clear e1 e2 e3
  by_cases h1 : c = 43
  · have b1 : ((c : Int) == 43) = true := by simp; omega
    rw [b1, Bool.true_or, Bool.true_and]
    clear h1
    go_enter Tryz.func51, Tryz.ntmps51
    go_wp2_with fail
    go_ret
    exact ⟨rfl, rfl⟩
  · have b1 : ((c : Int) == 43) = false := by simp; omega
    rw [b1, Bool.false_or]
    by_cases h2 : c = 35
    · have b2 : ((c : Int) == 35) = true := by simp; omega
      rw [b2, Bool.true_and]
      clear h1 h2
      go_enter Tryz.func51, Tryz.ntmps51
      go_wp2_with fail
      go_ret
      exact ⟨rfl, rfl⟩
    · have b2 : ((c : Int) == 35) = false := by simp; omega
      rw [b2, Bool.false_and]
      clear h1 h2
      go_enter Tryz.func51, Tryz.ntmps51
      go_wp2_with fail
      go_ret
      exact ⟨rfl, rfl⟩

theorem wants_cons (x : ByteArray) (r N : List ByteArray) : wants (x :: r) N = if x == hashB then true else match N with | [] => false | y :: m => (x == plusB || x == y) && wants r m := by first | rfl | rw [wants.eq_def]
set_option maxRecDepth 100000 in
set_option maxHeartbeats 4000000 in
theorem dwants_any : ∀ (F N : List ByteArray) (vf vn : Value) (w : World), F.length ≤ 1000 → N.length ≤ 1000 → Reads lEnc w vf F → Reads lEnc w vn N → CapOk vf → CapOk vn →
    Calls Tryz.prog 52 #[vf, vn] w fun e w' => e = .returned (.bool (wants F N)) ∧ ∃ m, w' = w.drewN m := by
  intro F
  induction F with
  | nil =>
    intro N vf vn w hF hN hf hn cf cn
    obtain ⟨af, pf, rfl⟩ := hf.form
    obtain ⟨an, pn, rfl⟩ := hn.form
    have hw : wants [] N = ((N.length : Int) == 0) := by
      unfold wants
      rw [Bool.eq_iff_iff]
      simp
    rw [hw]
    have h0 : (([] : List ByteArray).length) = 0 := rfl
    rw [h0]
    clear hf hn cf cn hw
    go_enter Tryz.func52, Tryz.ntmps52
    go_wp2_with fail
    go_ret
    exact ⟨rfl, 0, rfl⟩
  | cons x r ih =>
    intro N vf vn w hF hN hf hn cf cn
    obtain ⟨v1, hsl, hR1, _, hc1⟩ := hf.drop lElem cf (i := 1) (by simp)
    replace hsl : ∀ W, (Instr.sliceAt 23 vf (some (.int .i64 1)) none none).run Tryz.prog W = .ok v1 W := hsl
    rw [List.drop_succ_cons, List.drop_zero] at hR1
    obtain ⟨af, pf, rfl⟩ := hf.form
    obtain ⟨an, pn, rfl⟩ := hn.form
    obtain ⟨b0, o0, rfl, hca⟩ := hf.at_ lEnc_len (by simp)
    have hxc : w.cell? ⟨b0, o0, none⟩ = some (.string x) := by simpa using hca 0 x 0 _ rfl rfl
    obtain ⟨len, hlen⟩ : ∃ len, (x :: r).length = len := ⟨_, rfl⟩
    rw [hlen] at hsl ⊢
    have hl1 : 1 ≤ len := by rw [← hlen]; simp
    have hl0 : (0 : Int) < len := by omega
    have hl00 : 0 < len := by omega
    have hlne : ((len : Int) == 0) = false := by simp; omega
    have hL1 : r.length ≤ 1000 := by simp at hF; omega
    have hu := wants_cons x r N
    rw [hu]
    have hxh : (x == hashB) = (x.toList == [35]) := by rw [eq_toList, hash_list]
    have hxp : (x == plusB) = (x.toList == [43]) := by rw [eq_toList, plus_list]
    rw [hxh, hxp]
    clear hu hxh hxp hca
    cases hh : (x.toList == [35])
    · simp only [Bool.false_eq_true, if_false]
      cases N with
      | nil =>
        simp only [List.length_nil]
        clear hf hn hR1 hc1 cf cn ih
        go_enter Tryz.func52, Tryz.ntmps52
        go_wp2_with fail
        go_quiet (fail)
        go_wp2_with fail
        go_ret
        exact ⟨rfl, _, rfl⟩
      | cons y m =>
        simp only
        obtain ⟨v2, hsl2, hR2, _, hc2⟩ := hn.drop lElem cn (i := 1) (by simp)
        replace hsl2 : ∀ W, (Instr.sliceAt 23 (.slice an (y :: m).length pn) (some (.int .i64 1)) none none).run Tryz.prog W = .ok v2 W := hsl2
        rw [List.drop_succ_cons, List.drop_zero] at hR2
        obtain ⟨b1, o1, rfl, hcb⟩ := hn.at_ lEnc_len (by simp)
        have hyc : w.cell? ⟨b1, o1, none⟩ = some (.string y) := by simpa using hcb 0 y 0 _ rfl rfl
        obtain ⟨len2, hlen2⟩ : ∃ len2, (y :: m).length = len2 := ⟨_, rfl⟩
        rw [hlen2] at hsl2 ⊢
        have hl2 : 1 ≤ len2 := by rw [← hlen2]; simp
        have hl20 : (0 : Int) < len2 := by omega
        have hl200 : 0 < len2 := by omega
        have hM1 : m.length ≤ 1000 := by simp at hN; omega
        have IH := fun n => ih m v1 v2 (w.drewN n) hL1 hM1 (hR1.nil' ((Own.refl [] w).drewN n)) (hR2.nil' ((Own.refl [] w).drewN n)) hc1 hc2
        have hxy : (x == y) = (x.toList == y.toList) := eq_toList x y
        rw [hxy]
        generalize wants r m = ans at IH ⊢
        replace IH := Lib.hid IH
        clear hf hn hR1 hR2 hc1 hc2 cf cn ih hcb hxy
        cases hp : (x.toList == [43])
        · rw [Bool.false_or]
          cases hy : (x.toList == y.toList)
          · rw [Bool.false_and]
            go_enter Tryz.func52, Tryz.ntmps52
            go_wp2_with fail
            go_quiet (fail)
            go_wp2_with fail
            go_ret
            exact ⟨rfl, _, rfl⟩
          · rw [Bool.true_and]
            go_enter Tryz.func52, Tryz.ntmps52
            go_wp2_with fail
            go_quiet ((go_at_call 52; exact Calls.quiet_of (IH.out _)))
            go_wp2_with fail
            go_ret
            exact ⟨rfl, _, rfl⟩
        · rw [Bool.true_or, Bool.true_and]
          go_enter Tryz.func52, Tryz.ntmps52
          go_wp2_with fail
          go_quiet ((go_at_call 52; exact Calls.quiet_of (IH.out _)))
          go_wp2_with fail
          go_ret
          exact ⟨rfl, _, rfl⟩
    · simp only [if_true]
      clear hf hn hR1 hc1 cf cn ih
      go_enter Tryz.func52, Tryz.ntmps52
      go_wp2_with fail
      go_ret
      exact ⟨rfl, 0, rfl⟩

set_option maxRecDepth 100000 in
set_option maxHeartbeats 4000000 in
theorem dmatch_any (f n : ByteArray) (w : World) :
    Calls Tryz.prog 29 #[.string f, .string n] w fun e w' => e = .returned (.bool (mMatch f n)) ∧ Own [] w w' := by
  unfold mMatch
  have cF := dfilter_any f w
  have hpf := fun h => lvSized_pos (s := f) h
  have hpn := fun h => lvSized_pos (s := n) h
  have hfs : lvFilter f = true → lvSized f = true := fun h => by unfold lvFilter at h; rw [Bool.and_eq_true] at h; exact h.1
  have hns : lvName n = true → lvSized n = true := fun h => by unfold lvName at h; rw [Bool.and_eq_true] at h; exact h.1
  have cN := fun W => dname_any n W
  generalize lvFilter f = bf at cF hfs ⊢
  generalize lvName n = bn at cN hns ⊢
  replace cF := Lib.hid cF
  replace cN := Lib.hid cN
  cases bf
  · simp only [Bool.false_and]
    go_enter Tryz.func29, Tryz.ntmps29
    go_wp2_with (go_at_call 38; refine cF.out.mono ?_; rintro e w2 ⟨rfl, hO2⟩; replace hO2 := Lib.hid hO2)
    go_ret
    exact ⟨rfl, hO2.out⟩
  · cases bn
    · simp only [Bool.true_and, Bool.false_and]
      go_enter Tryz.func29, Tryz.ntmps29
      go_wp2_with (first
        | (go_at_call 38; refine cF.out.mono ?_; rintro e w2 ⟨rfl, hO2⟩; replace hO2 := Lib.hid hO2)
        | (go_at_call 50; refine (cN.out _).mono ?_; rintro e w3 ⟨rfl, hO3⟩; replace hO3 := Lib.hid (hO2.out.trans hO3)))
      go_ret
      exact ⟨rfl, hO3.out⟩
    · have h1 := hpf (hfs rfl)
      have h2 := hpn (hns rfl)
      have cB := fun W => shy_any f n W h1.1 h2.1
      have sF := fun W => dsplit_any f W (by omega)
      have sN := fun W => dsplit_any n W (by omega)
      have l1 : (levels f).length ≤ 1000 := by have := levels_len f; omega
      have l2 : (levels n).length ≤ 1000 := by have := levels_len n; omega
      have cA := fun va vb W ha hb ca cb => dwants_any (levels f) (levels n) va vb W l1 l2 ha hb ca cb
      simp only [Bool.true_and]
      clear hpf hpn hfs hns h1 h2 l1 l2
      generalize (fWild f && lvHidden n) = b1 at cB ⊢
      generalize wants (levels f) (levels n) = ans at cA ⊢
      replace cB := Lib.hid cB
      replace sF := Lib.hid sF
      replace sN := Lib.hid sN
      replace cA := Lib.hid cA
      cases b1 <;> simp only [Bool.false_and, Bool.true_and, Bool.not_false, Bool.not_true]
      all_goals
        go_enter Tryz.func29, Tryz.ntmps29
        go_wp2_with (first
          | (go_at_call 38; refine cF.out.mono ?_; rintro e w2 ⟨rfl, hO2⟩; replace hO2 := Lib.hid hO2)
          | (go_at_call 50; refine (cN.out _).mono ?_; rintro e w3 ⟨rfl, hO3⟩; replace hO3 := Lib.hid (hO2.out.trans hO3))
          | (go_at_call 51; refine (cB.out _).mono ?_; rintro e w' ⟨rfl, rfl⟩)
          | (go_at_call 53; ((with_reducible refine (sF.out w3).mono ?_); rintro e w5 ⟨v5, rfl, hS5, hO5⟩; replace hS5 := Lib.hid hS5; replace hO5 := Lib.hid hO5))
          | (go_at_call 53; ((with_reducible refine (sN.out w5).mono ?_); rintro e w6 ⟨v6, rfl, hS6, hO6⟩; have hA := cA.out v5 v6 w6 ((hS5.out.nil' hO6).reads lEnc_len) (hS6.reads lEnc_len) hS5.out.capOk hS6.capOk; replace hA := Lib.hid hA; replace hO6 := Lib.hid (hO3.out.trans (hO5.out.trans hO6)); clear hS6))
          | (go_at_call 52; refine hA.out.mono ?_; rintro e w7 ⟨rfl, m, hm⟩; have hO7 := Lib.hid (hO6.out.trans (hm ▸ (Own.refl [] _).drewN m)); clear hm))
        go_ret
        exact ⟨rfl, by first | exact hO7.out | exact hO3.out⟩
end Go.Proofs.YtldagaliddgdjaaGreatDoor
