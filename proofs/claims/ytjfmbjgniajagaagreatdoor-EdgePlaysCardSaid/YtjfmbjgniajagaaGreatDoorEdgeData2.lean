/- Package edge: data. -/
import Derived.Test.YtjfmbjgniajagaaGreatDoorEdgeData
namespace Go.Proofs.YtjfmbjgniajagaaGreatDoor
open Go.RowKit

set_option maxRecDepth 100000 in
set_option maxHeartbeats 4000000 in
theorem data_any (n : Nat) (g nm : ByteArray) (L : EW) (s : EN) (dn : ByteArray) (p : Pay) (w : World) (h : EdgeAt w n g nm L s) (hM : MetsAt w p.a p.M) (h0 : 0 ≤ p.s) (hE : Errs w) :
    Calls Tryz.prog 35 #[.pointer (some ⟨n, 0, none⟩), .string dn, p.val] w (EPost n g nm L (eData s p) w) := by
  have hW0 := pbox_own w p
  have hP := fun W (ho : Own [] (pbox w p) W) => pbox_cells w p (S := []) (by simp) W ho
  have hC := fun W (ho : Own [] w W) => edge_cells h (S := []) (by simp) W ho
  have hsame := fun W (ho : Own [] w W) => h.same ho
  have cF := fun W (ho : Own [] w W) => efits_any n g nm L s p W (h.nil' ho) h0
  have hil : s.items.length ≤ 32 := h.few.1
  have cU := fun W (ho : Own [] w W) => updp_any L.ia s.items L.ic p.a p.M p.c L.tb L.tm s.al noName W ((h.nil' ho).its.at_ (by omega)) (hM.nil' ho) (h.tab.own ho (by simp) (by simp)) (by omega) (hE.nil ho)
  have hul := updGo_len (aFind s.al noName) p.M s.items
  have cK := fun W L' s' (hk : EdgeAt W n g nm L' s') (hf : eFits s' p = true) => etook_any n g nm L' s' p W hk h0 hf
  have hset := fun W a cap l (ho : Own [] w W) (hR : OutRow w.heap.size W a cap l) (hl : l.length ≤ 32) => h.setItems (a := a) (cap := cap) ho hR hl
  unfold EPost eData
  unfold Born2Post at cU
  have hv : p.val = .agg #[.int .u64 p.t, .bool p.h, .int .u64 p.s, .string p.u, .string p.b, .slice p.a p.M.length p.c] := rfl
  rw [hv] at cF cK ⊢
  simp only [pbox] at hW0 hP
  generalize updGo (aFind s.al noName) p.M s.items = up at *
  obtain ⟨up1, up2⟩ := up
  unfold noName at *
  simp only at *
  obtain ⟨⟨k2, k3, k4, k5, k6, k7, k8⟩, _⟩ := hC _ hW0
  cases hon : s.online with
  | false =>
    rw [if_pos rfl]
    rw [hon] at k2
    replace hW0 := Lib.hid hW0
    replace hsame := Lib.hid hsame
    clear cF cU cK hset hC hP h hM hE hon
    go_enter Tryz.func35, Tryz.ntmps35
    go_wp2_with fail
    go_ret
    exact ⟨rfl, hsame.out _ hW0.out⟩
  | true =>
    rw [if_neg (by simp)]
    rw [hon] at k2
    obtain ⟨q0, q1, q2, q3, q4, q5⟩ := hP _ (Own.refl _ _)
    have cF1 := cF _ hW0
    cases hft : eFits s p with
    | false =>
      rw [if_pos rfl]
      rw [hft] at cF1
      replace hW0 := Lib.hid hW0
      replace hsame := Lib.hid hsame
      replace cF1 := Lib.hid cF1
      clear cF cU cK hset hC hP h hM hE hon hft
      go_enter Tryz.func35, Tryz.ntmps35
      go_wp2_with (go_at_call 57; (with_reducible refine cF1.out.mono ?_); rintro e w2 ⟨rfl, hO2⟩; replace hO2 := Lib.hid (hW0.out.trans hO2))
      go_ret
      exact ⟨rfl, hsame.out _ hO2.out⟩
    | true =>
      rw [if_neg (by simp)]
      rw [hft] at cF1
      replace hP := Lib.hid hP
      replace hC := Lib.hid hC
      replace cU := Lib.hid cU
      replace cK := Lib.hid cK
      replace hset := Lib.hid hset
      replace hsame := Lib.hid hsame
      replace cF1 := Lib.hid cF1
      have hW0s := Lib.hid hW0
      have hon2 := Lib.hid hon
      have hft2 := Lib.hid hft
      clear cF h hM hE hon hft hW0
      by_cases hu : up1 = 1
      · subst hu
        rw [if_neg (by simp)]
        have hul2 := Lib.hid (Nat.le_trans hul hil)
        clear hul hil
        go_enter Tryz.func35, Tryz.ntmps35
        go_wp2_with (go_at_call 57; (with_reducible refine cF1.out.mono ?_); rintro e w2 ⟨rfl, hO2⟩; have hX2 := hW0s.out.trans hO2; obtain ⟨⟨l2, l3, l4, l5, l6, l7, l8⟩, _⟩ := hC.out _ hX2; obtain ⟨r0, r1, r2, r3, r4, r5⟩ := hP.out _ hO2; have cU2 := Lib.hid (cU.out _ hX2.drew); replace hX2 := Lib.hid hX2; replace hO2 := Lib.hid hO2)
        go_region_with ((go_at_call 58; (with_reducible refine cU2.out.mono ?_); rintro e w3 ⟨a, cap, rfl, hR3, hO3⟩; have hX3 := hX2.out.drew.trans hO3; obtain ⟨_, z2, z3, z5, z6, z7, z8⟩ := hC.out _ hX3; have hR3' : OutRow w.heap.size w3 a cap up2 := ⟨hR3.own, fun q hq => Nat.le_trans hX2.out.size (hR3.fresh q hq), hR3.good⟩; obtain ⟨hE3, hO4, hfe⟩ := hset.out _ a cap up2 hX3 hR3' hul2.out; have hP3 := hP.out _ ((hO2.out.drew).trans hO3); have cK3 := Lib.hid (cK.out _ _ _ hE3 hft2.out); replace hX3 := Lib.hid hX3; replace hO4 := Lib.hid hO4; replace hfe := Lib.hid hfe; replace hE3 := Lib.hid hE3; obtain ⟨m0, m1, m2, m3, m4, m5⟩ := hP3; clear hR3 hR3'))
        all_goals
          go_wp2_with (go_at_call 59; (with_reducible refine cK3.out.mono ?_); rintro e w5 ⟨rfl, hE5, hO5⟩; replace hE5 := Lib.hid hE5; replace hO5 := Lib.hid hO5)
          go_ret
          have hE6 := hE5.out
          rw [hon2.out] at hE6
          refine ⟨rfl, _, hE6, ?_, hfe.out⟩
          have h1 : Own (L.feet n) w _ := hX3.out.nil.trans (hO4.out.mono (fun x hx => by simp at hx; subst hx; unfold EW.feet; simp))
          exact h1.trans (hO5.out.mono (fun x hx => by simp at hx; subst hx; unfold EW.feet; simp))
      · rw [if_pos hu]
        have hu1 : (up1 != 1) = true := by simpa using hu
        clear hu hul hil cK hset
        go_enter Tryz.func35, Tryz.ntmps35
        go_wp2_with (go_at_call 57; (with_reducible refine cF1.out.mono ?_); rintro e w2 ⟨rfl, hO2⟩; have hX2 := hW0s.out.trans hO2; obtain ⟨⟨l2, l3, l4, l5, l6, l7, l8⟩, _⟩ := hC.out _ hX2; obtain ⟨r0, r1, r2, r3, r4, r5⟩ := hP.out _ hO2; have cU2 := Lib.hid (cU.out _ hX2.drew); replace hX2 := Lib.hid hX2; replace hO2 := Lib.hid hO2)
        go_region_with ((go_at_call 58; (with_reducible refine cU2.out.mono ?_); rintro e w3 ⟨a, cap, rfl, hR3, hO3⟩; have hX3 := hX2.out.drew.trans hO3; replace hX3 := Lib.hid hX3; clear hR3))
        all_goals
          go_wp2_with fail
          go_ret
          exact ⟨rfl, hsame.out _ hX3.out⟩
end Go.Proofs.YtjfmbjgniajagaaGreatDoor
