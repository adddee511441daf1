/- Package trie: down the levels of a name. -/
import Derived.Test.YtldagaliddgdjaaGreatDoorTrieBest
namespace Go.Proofs.YtldagaliddgdjaaGreatDoor
open Go.RowKit Go.Lib Go.Shelf

set_option maxRecDepth 100000 in
set_option maxHeartbeats 4000000 in
theorem walk_any (N : Nodes) (mb : Nat) (hmb : mb ∉ feet N) (hC : Closed' N) : ∀ (L : List ByteArray) (oc : Option Nat) (wide : Bool) (v : Value) (w : World) (B : List (Int × Int)), L.length ≤ 1000 → Reads lEnc w v L → CapOk v → (∀ b, v.ownBlock = some b → b ≠ mb) → Forest w N → (∀ c, oc = some c → Has N c) → MapP (Value.int .i64) (Value.int .i64) w mb B →
    Calls Tryz.prog 24 #[.map (some mb), optP oc, v, .bool wide] w (BestPost mb (fun k => walkU N L oc wide k (aGet B k)) w) := by
  intro L
  induction L with
  | nil =>
    intro oc wide v w B hL hR hcap hvb hF hh hB
    cases oc with
    | none =>
      have hp : BestPost mb (fun k => walkU N [] none wide k (aGet B k)) w (.returned (.tuple #[])) w := ⟨rfl, B, hB, fun k => rfl, Own.refl _ _⟩
      simp only [optP]
      replace hp := Lib.hid hp
      clear hR hcap hvb hF hh hB
      go_enter Tryz.func24, Tryz.ntmps24
      go_wp2_with fail
      (try simp only [Exit.inBlock, Exit.then]); refine bodyPost_ret (results_none rfl _ _ _) rfl ?_
      exact hp.out
    | some c =>
      obtain ⟨a, cp, rfl⟩ := hR.form
      obtain ⟨n, hf, hn, rfl⟩ := (hh c rfl).find hF.apart
      have k0 := (hF.at_ n hn).cells.1
      have lk := (hF.at_ n hn).look hashB
      have hsub : nSub N n.blk hashB = aGet n.sub hashB := by unfold nSub; rw [hf]; rfl
      have A1 := fun B => badd_opt N mb hmb (nSub N n.blk hashB) B
      have A2 := fun B => badd_opt N mb hmb (some n.blk) B
      have hcl := fun d => nSub_has hC (c := n.blk) (x := hashB) (d := d)
      rw [← hsub] at lk
      clear hsub
      simp only [List.length_nil, walkU]
      generalize nSub N n.blk hashB = oh at lk A1 hcl ⊢
      have hA1 := Lib.hid (A1 B w hF hcl hB)
      have hA0 := Lib.hid (A2 B w hF hh hB)
      generalize optP oh = vo at lk hA1
      simp only [optP, hashB] at lk hA0 A2 ⊢
      replace hF := Lib.hid hF
      replace A2 := Lib.hid A2
      replace hh := Lib.hid hh
      replace hB := Lib.hid hB
      have hne := Lib.hid hmb
      clear A1 hcl hvb hR hf hn hcap
      cases wide
      · simp only [Bool.false_eq_true, if_false]
        go_enter Tryz.func24, Tryz.ntmps24
        go_wp2_with (go_at_call 44; refine hA0.out.mono ?_; rintro e w2 ⟨rfl, hb2⟩; replace hb2 := Lib.hid hb2)
        (try simp only [Exit.inBlock, Exit.then]); refine bodyPost_ret (results_none rfl _ _ _) rfl ?_
        exact ⟨rfl, hb2.out⟩
      · simp only [if_true]
        go_enter Tryz.func24, Tryz.ntmps24
        go_wp2_with (first
          | (go_at_call 44; ((with_reducible refine hA1.out.mono ?_); rintro e w2 ⟨rfl, B2, hB2, hk2, hb2⟩; have hF2 := hF.out.own hb2 (fun y hy e => by simp at e; subst e; exact hne.out hy); have hA2 := A2.out B2 w2 hF2 hh.out hB2; replace hA2 := Lib.hid hA2; replace hk2 := Lib.hid hk2; replace hb2 := Lib.hid hb2; clear hF2 hB2))
          | (go_at_call 44; ((with_reducible refine hA2.out.mono ?_); rintro e w3 ⟨rfl, B3, hB3, hk3, hb3⟩; replace hb3 := Lib.hid hb3; replace hB3 := Lib.hid hB3; replace hk3 := Lib.hid hk3)))
        (try simp only [Exit.inBlock, Exit.then]); refine bodyPost_ret (results_none rfl _ _ _) rfl ?_
        exact ⟨rfl, B3, hB3.out, fun k => by rw [hk3.out k, hk2.out k], hb2.out.trans hb3.out⟩
  | cons x r ih =>
    intro oc wide v w B hL hR hcap hvb hF hh hB
    cases oc with
    | none =>
      have hp : BestPost mb (fun k => walkU N (x :: r) none wide k (aGet B k)) w (.returned (.tuple #[])) w := ⟨rfl, B, hB, fun k => rfl, Own.refl _ _⟩
      simp only [optP]
      replace hp := Lib.hid hp
      clear hR hcap hvb hF hh hB ih
      go_enter Tryz.func24, Tryz.ntmps24
      go_wp2_with fail
      (try simp only [Exit.inBlock, Exit.then]); refine bodyPost_ret (results_none rfl _ _ _) rfl ?_
      exact hp.out
    | some c =>
      obtain ⟨v1, hsl, hR1, hob, hcap1⟩ := hR.drop lElem hcap (i := 1) (by simp)
      replace hsl : ∀ W, (Instr.sliceAt 23 v (some (.int .i64 1)) none none).run Tryz.prog W = .ok v1 W := hsl
      have hvb1 : ∀ b, v1.ownBlock = some b → b ≠ mb := fun b hb => hvb b (hob b hb)
      rw [List.drop_succ_cons, List.drop_zero] at hR1
      obtain ⟨a, cp, rfl⟩ := hR.form
      obtain ⟨b0, o0, rfl, hca⟩ := hR.at_ lEnc_len (by simp)
      have hxc : w.cell? ⟨b0, o0, none⟩ = some (.string x) := by simpa using hca 0 x 0 _ rfl rfl
      have hb0 : b0 ≠ mb := hvb b0 rfl
      have hxl := block_lt_of_cell hxc
      obtain ⟨len, hlen⟩ : ∃ len, (x :: r).length = len := ⟨_, rfl⟩
      rw [hlen] at hsl ⊢
      have hl1 : 1 ≤ len := by rw [← hlen]; simp
      have hl0 : (0 : Int) < len := by omega
      have hl00 : 0 < len := by omega
      have hlne : ((len : Int) == 0) = false := by simp; omega
      have hL1 : r.length ≤ 1000 := by simp at hL; omega
      obtain ⟨n, hf, hn, rfl⟩ := (hh c rfl).find hF.apart
      have hk0 := fun W (hF : Forest W N) => (hF.at_ n hn).cells.1
      have hsub : ∀ y, nSub N n.blk y = aGet n.sub y := fun y => by unfold nSub; rw [hf]; rfl
      have lkA := fun W (hF : Forest W N) => (hF.at_ n hn).look hashB
      have lkX := fun W (hF : Forest W N) => (hF.at_ n hn).look x
      have lkP := fun W (hF : Forest W N) => (hF.at_ n hn).look plusB
      rw [← hsub] at lkA lkX lkP
      have hFo := fun W (ho : Own [mb] w W) => hF.own ho (fun y hy e => by simp at e; subst e; exact hmb hy)
      have hxo := fun W (ho : Own [mb] w W) => (ho.cell (p := ⟨b0, o0, none⟩) hxl (by simpa using hb0)).trans hxc
      have IH := fun oc' (hh' : ∀ c, oc' = some c → Has N c) W B' (ho : Own [mb] w W) (hB' : MapP (Value.int .i64) (Value.int .i64) W mb B') => ih oc' true v1 W B' hL1 (hR1.own ho (fun b hb => by simpa using hvb1 b hb)) hcap1 hvb1 (hFo W ho) hh' hB'
      have A1 := badd_opt N mb hmb (nSub N n.blk hashB) B w hF (fun d => nSub_has hC) hB
      have IHX := IH (nSub N n.blk x) (fun d => nSub_has hC)
      have IHP := IH (nSub N n.blk plusB) (fun d => nSub_has hC)
      have hup : ∀ k o, walkU N (x :: r) (some n.blk) wide k o = if wide then walkU N r (nSub N n.blk plusB) true k (walkU N r (nSub N n.blk x) true k (bUp o (atN N (nSub N n.blk hashB) k))) else walkU N r (nSub N n.blk x) true k o := fun k o => rfl
      simp only [hup]
      clear hup IH ih hsub hf hn hR hR1 hcap hcap1 hvb hvb1 hob hh hca hlen hL hL1 hxl hb0
      generalize nSub N n.blk hashB = oa at lkA A1 ⊢
      generalize nSub N n.blk x = ox at lkX IHX ⊢
      generalize nSub N n.blk plusB = op at lkP IHP ⊢
      have k0 := hk0 w hF
      replace A1 := Lib.hid A1
      replace IHX := Lib.hid IHX
      replace IHP := Lib.hid IHP
      replace hFo := Lib.hid hFo
      replace hxo := Lib.hid hxo
      replace hk0 := Lib.hid hk0
      replace lkX := Lib.hid lkX
      replace lkP := Lib.hid lkP
      have hB0 := Lib.hid hB
      cases wide
      · simp only [Bool.false_eq_true, if_false, optP]
        clear hF hB A1 lkA
        generalize optP ox = vx at lkX IHX
        go_enter Tryz.func24, Tryz.ntmps24
        go_wp2_with fail
        have lxd := lkX.out w.drew (hFo.out w.drew (Own.refl _ _).drew)
        have hx0 := hxo.out w.drew (Own.refl _ _).drew
        have hD : Own [mb] w w.drew := (Own.refl _ _).drew
        replace hD := Lib.hid hD
        go_region_with ((go_at_call 24; refine (IHX.out w.drew B hD.out hB0.out).mono ?_; rintro e w2 ⟨rfl, B2, hB2, hk2, hb2⟩; replace hB2 := Lib.hid hB2; replace hk2 := Lib.hid hk2; replace hb2 := Lib.hid hb2))
        all_goals
          go_wp2_with fail
          go_end0
          exact ⟨rfl, B2, hB2.out, hk2.out, hD.out.trans hb2.out⟩
      · simp only [if_true, optP]
        have la := lkA w hF
        clear hF hB lkA
        generalize optP ox = vx at lkX IHX
        generalize optP op = vp at lkP IHP
        generalize optP oa = va at la A1
        simp only [hashB] at la
        simp only [plusB] at lkP
        go_enter Tryz.func24, Tryz.ntmps24
        go_wp2_with (go_at_call 44; refine A1.out.mono ?_; rintro e w1 ⟨rfl, B1, hB1, hk1, hb1⟩; replace hB1 := Lib.hid hB1; replace hk1 := Lib.hid hk1; replace hb1 := Lib.hid hb1)
        have hD : Own [mb] w w1.drew := hb1.out.drew
        have k1 := hk0.out w1 (hFo.out _ hb1.out)
        have lxd := lkX.out w1.drew (hFo.out _ hD)
        have hx0 := hxo.out w1.drew hD
        have hx1 := hxo.out w1 hb1.out
        replace hD := Lib.hid hD
        have hB1d : MapP (Value.int .i64) (Value.int .i64) w1.drew mb B1 := hB1.out.own (Own.refl [] _).drew (by simp)
        replace hB1d := Lib.hid hB1d
        go_region_with ((go_at_call 24; refine (IHX.out w1.drew B1 hD.out hB1d.out).mono ?_; rintro e w2 ⟨rfl, B2, hB2, hk2, hb2⟩; replace hB2 := Lib.hid hB2; replace hk2 := Lib.hid hk2; replace hb2 := Lib.hid hb2))
        all_goals
          have hD2 : Own [mb] w w2.drew := (hD.out.trans hb2.out).drew
          have hD2' : Own [mb] w w2 := hD.out.trans hb2.out
          have k2 := hk0.out w2 (hFo.out _ hD2')
          have lpd := lkP.out w2.drew (hFo.out _ hD2)
          have hB2d : MapP (Value.int .i64) (Value.int .i64) w2.drew mb B2 := hB2.out.own (Own.refl [] _).drew (by simp)
          replace hD2 := Lib.hid hD2
          replace hD2' := Lib.hid hD2'
          replace hB2d := Lib.hid hB2d
          go_wp2_with fail
          go_region_with ((go_at_call 24; refine (IHP.out w2.drew B2 hD2.out hB2d.out).mono ?_; rintro e w3 ⟨rfl, B3, hB3, hk3, hb3⟩; replace hB3 := Lib.hid hB3; replace hk3 := Lib.hid hk3; replace hb3 := Lib.hid hb3))
          all_goals
            go_wp2_with fail
            go_end0
            exact ⟨rfl, B3, hB3.out, fun k => by rw [hk3.out k, hk2.out k, hk1.out k], hD2.out.trans hb3.out⟩
end Go.Proofs.YtldagaliddgdjaaGreatDoor
