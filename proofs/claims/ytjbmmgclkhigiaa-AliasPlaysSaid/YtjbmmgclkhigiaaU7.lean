/- The library's sort at uint64: pdqsortOrdered, slices.Sort: a permutation, sorted. -/
import Derived.Test.YtjbmmgclkhigiaaU1
import Derived.Test.YtjbmmgclkhigiaaU2
import Derived.Test.YtjbmmgclkhigiaaU3b
import Derived.Test.YtjbmmgclkhigiaaU5
import Derived.Test.YtjbmmgclkhigiaaU6
set_option linter.unusedSimpArgs false
set_option linter.unusedVariables false
namespace Go.Proofs.Ytjbmmgclkhigiaa
open Go.RowKit

abbrev lt6 := Sort.ltInt
/-- What a sort of [a, b) leaves. -/
def PdqP (blk off a b : Nat) (d : Array Int) (w w' : World) : Prop := ∃ R, Rw blk off w w' R ∧ Sort.PermIn a b d R ∧ Sort.SortedIn lt6 a b R
theorem Rw.call {blk off : Nat} {w w1 w2 : World} {d d' : Array Int} (h : Rw blk off w w1 d) (ho : Own [blk] w1 w2) (hr : Sort.Holds eU w2 blk off d') : Rw blk off w w2 d' := ⟨h.own.trans ho, hr⟩
theorem perm_size {a b n : Nat} {d d' : Array Int} (h : Sort.PermIn a b d d') (hn : d.size = n) : d'.size = n := h.1.trans hn
set_option maxHeartbeats 32000000 in
set_option maxRecDepth 1000000 in
theorem pdq64 (blk off cap n : Nat) (hsz : n < 4611686018427387904) : ∀ (N a b limit : Nat) (d : Array Int) (w : World), b - a < N → d.size = n → Sort.Holds eU w blk off d → a ≤ b → b ≤ n → limit < 4611686018427387904 → Sort.Below lt6 a b d →
    Calls Try.prog 33 #[.slice (some ⟨blk, off, none⟩) n cap, .int .i64 a, .int .i64 b, .int .i64 limit] w fun e w' => e = .returned (.tuple #[]) ∧ PdqP blk off a b d w w' := by
  intro N
  induction N with
  | zero => intro _ _ _ _ _ h; exact absurd h (Nat.not_lt_zero _)
  | succ N ih =>
    intro a b limit d w hN hn hH hab hb hlimit hBel
    have IH : Aside (∀ (a b limit : Nat) (d : Array Int) (w : World), b - a < N → d.size = n → Sort.Holds eU w blk off d → a ≤ b → b ≤ n → limit < 4611686018427387904 → Sort.Below lt6 a b d →
      Calls Try.prog 33 #[.slice (some ⟨blk, off, none⟩) n cap, .int .i64 a, .int .i64 b, .int .i64 limit] w fun e w' => e = .returned (.tuple #[]) ∧ PdqP blk off a b d w w') := ih
    have S0 : Aside (d.size = n) := hn
    have R0 : Aside (Rw blk off w w d) := Rw.refl hH
    have B0 : Aside (Sort.Below lt6 a b d) := hBel
    clear ih hn hH hBel
    go_enter Try.func33, Try.ntmps33
    go_wp2_with fail
    go_loopg [1, 2, 3, 8, 9] (b - a) (fun k s1 s2 s3 s8 s9 wr => ∃ (a' b' lim : Nat) (wb wp : Bool) (dk : Array Int), s1 = .int .i64 a' ∧ s2 = .int .i64 b' ∧ s3 = .int .i64 lim ∧ s8 = .bool wb ∧ s9 = .bool wp ∧
      a' ≤ b' ∧ b' ≤ n ∧ b' - a' ≤ k ∧ k ≤ b - a ∧ lim ≤ limit ∧ Aside (dk.size = n) ∧ Aside (Rw blk off w wr dk) ∧ Aside (Sort.Below lt6 a' b' dk) ∧ Aside (∀ R, Sort.PermIn a' b' dk R → Sort.SortedIn lt6 a' b' R → Sort.PermIn a b d R ∧ Sort.SortedIn lt6 a b R))
    case atStart => exact ⟨a, b, limit, true, true, d, rfl, rfl, rfl, rfl, rfl, hab, hb, Nat.le_refl _, Nat.le_refl _, Nat.le_refl _, S0, R0, B0, fun R h1 h2 => ⟨h1, h2⟩⟩
    case round =>
      obtain ⟨a', b', lim, wb, wp, dk, rfl, rfl, rfl, rfl, rfl, hab', hb', hk, hkN, hlim, hsk, HR, HB, HK⟩ := hrel
      have hFin : Aside (∀ W R, Rw blk off w W R → Sort.PermIn a' b' dk R → Sort.SortedIn lt6 a' b' R → PdqP blk off a b d w W) := fun W R h1 h2 h3 => ⟨R, h1, HK.out R h2 h3⟩
      by_cases h12 : b' - a' ≤ 12
      · have h12z : (b' : Int) - (a' : Int) ≤ 12 := by omega
        have hc := Lib.hid (ins64 blk off cap a' b' n dk hsk.out wr HR.out.row hab' hb' hsz)
        go_wp2_with (go_at_call 35; refine hc.out.mono ?_; rintro e w1 ⟨rfl, hw1⟩; replace hw1 := Lib.hid hw1)
        (try simp only [Exit.inBlock, Exit.then]); refine bodyPost_ret (results_none rfl _ _ _) rfl ?_
        obtain ⟨p1, p2⟩ := Sort.insertionSort_holds (lt := lt6) Sort.swo_ltInt dk a' b' hab' (by rw [hsk.out]; exact hb')
        exact ⟨rfl, hFin.out _ _ (HR.out.trans hw1.out) p1 p2⟩
      · have h12z : ¬ ((b' : Int) - (a' : Int) ≤ 12) := by omega
        by_cases hl0 : lim = 0
        · subst hl0
          have hc := Lib.hid (heap64 blk off cap a' b' n dk hsk.out wr HR.out.row hab' hb' hsz)
          go_wp2_with (go_at_call 36; refine hc.out.mono ?_; rintro e w1 ⟨rfl, hw1⟩; replace hw1 := Lib.hid hw1)
          (try simp only [Exit.inBlock, Exit.then]); refine bodyPost_ret (results_none rfl _ _ _) rfl ?_
          obtain ⟨p1, p2⟩ := Sort.heapSort_holds (lt := lt6) Sort.swo_ltInt dk a' b' hab' (by rw [hsk.out]; exact hb')
          exact ⟨rfl, hFin.out _ _ (HR.out.trans hw1.out) p1 p2⟩
        · have hl0z : ¬ ((lim : Int) = 0) := by omega
          have habs : a' < b' := by omega
          have hbk : Aside (b' ≤ dk.size) := by show _ ≤ _; rw [hsk.out]; exact hb'
          go_upto_if 35 with fail
          go_cut [3] from 19 (fun s3 wc => ∃ (lim2 : Nat) (d1 : Array Int), s3 = .int .i64 lim2 ∧ lim2 ≤ limit ∧ Aside (Rw blk off w wc d1) ∧ Aside (Sort.PermIn a' b' dk d1))
          case first =>
            cases wb
            · have hc := Lib.hid (brk64 blk off cap a' b' n dk hsk.out wr HR.out.row habs hb' hsz)
              go_wp2_with (go_at_call 37; refine hc.out.mono ?_; rintro e w1 ⟨rfl, hw1⟩; replace hw1 := Lib.hid hw1)
              go_meet
              case rel =>
                obtain ⟨d1, h1, h2, h3⟩ := hw1.out
                exact ⟨lim - 1, d1, by congr 1; omega, by omega, HR.out.call h2 h1, h3⟩
            · go_wp2_with fail
              go_meet
              case rel => exact ⟨lim, dk, rfl, hlim, HR, Sort.permIn_refl _ _ _⟩
          case rest =>
            obtain ⟨lim2, d1, rfl, hlim2, HR1, HP1⟩ := hcut
            have hs1 : Aside (d1.size = n) := perm_size HP1.out hsk.out
            have hc := Lib.hid (piv64 blk off cap a' b' n d1 hs1.out wc HR1.out.row habs hb' hsz)
            go_upto_if 50 with (go_at_call 38; refine hc.out.mono ?_; rintro e w2 ⟨p, hint, rfl, hp1, hp2, hO2⟩; have HR2 : Aside (Rw blk off w w2 d1) := (HR1.out.call hO2.nil (holds_own HR1.out.row hO2 (by simp))); clear hO2)
            go_cut [11, 12] from 19 (fun s11 s12 wc => ∃ (p : Nat) (hint : Int) (d2 : Array Int), s11 = .int .i64 p ∧ s12 = .int .i64 hint ∧ a' ≤ p ∧ p < b' ∧ Aside (Rw blk off w wc d2) ∧ Aside (Sort.PermIn a' b' dk d2))
            case first =>
              by_cases hh : hint = 2
              · subst hh
                have hc := Lib.hid (rev64 blk off cap a' b' n d1 hs1.out w2 HR2.out.row hab' hb' hsz)
                go_wp2_with (go_at_call 39; refine hc.out.mono ?_; rintro e w3 ⟨rfl, hw3⟩; replace hw3 := Lib.hid hw3)
                go_meet
                case rel =>
                  obtain ⟨d2, h1, h2⟩ := hw3.out
                  exact ⟨(b' - 1) - (p - a'), 1, d2, by congr 1; omega, rfl, by omega, by omega, HR2.out.trans h1, Sort.permIn_trans _ _ _ _ _ HP1.out h2⟩
              · have hhz : (hint == 2) = false := beq_eq_false_iff_ne.2 hh
                go_wp2_with fail
                go_meet
                case rel => exact ⟨p, hint, d1, rfl, rfl, hp1, hp2, HR2, HP1⟩
            case rest =>
              clear hp1 hp2
              obtain ⟨p, hint, d2, rfl, rfl, hp1, hp2, HR3, HP2⟩ := hcut
              have hs2 : Aside (d2.size = n) := perm_size HP2.out hsk.out
              go_upto_region 15 with fail
              go_cut [12, 68] from 19 (fun s12 s68 wx => ∃ t : Bool, s12 = .int .i64 hint ∧ s68 = .bool t ∧ Aside (Rw blk off w wx d2))
              case first =>
                cases wb
                · go_wp2_with fail
                  go_meet
                  case rel => exact ⟨_, rfl, rfl, HR3⟩
                · cases wp
                  · go_wp2_with fail
                    go_meet
                    case rel => exact ⟨_, rfl, rfl, HR3⟩
                  · obtain ⟨hb1, hhb⟩ : ∃ x : Bool, (hint == 1) = x := ⟨_, rfl⟩
                    cases hb1
                    · go_wp2_with fail
                      go_meet
                      case rel => exact ⟨_, rfl, rfl, HR3⟩
                    · go_wp2_with fail
                      go_meet
                      case rel => exact ⟨_, by first | rfl | (have := eq_of_beq hhb; subst this; rfl), rfl, HR3⟩
              case rest =>
                obtain ⟨t, rfl, rfl, HR4⟩ := hcut
                go_upto_if 68 with fail
                go_cut [] from 19 (fun wx => ∃ d3 : Array Int, Aside (Rw blk off w wx d3) ∧ Aside (Sort.PermIn a' b' dk d3))
                case first =>
                  cases t
                  · go_wp2_with fail
                    go_meet
                    case rel => exact ⟨d2, HR4, HP2⟩
                  · have hc := Lib.hid (pins64 blk off cap a' b' n d2 hs2.out wc HR4.out.row habs hb' hsz)
                    have hBel2 := HB.out.perm hbk.out HP2.out
                    obtain ⟨p1, p2⟩ := Sort.partialInsertionSort_holds (lt := lt6) Sort.swo_ltInt d2 a' b' habs (by rw [hs2.out]; exact hb') hBel2
                    obtain ⟨x1, x2, hx⟩ : ∃ x1 x2, Sort.partialInsertionSort Sort.ltInt d2 a' b' = (x1, x2) := ⟨_, _, rfl⟩
                    have hx' : Sort.partialInsertionSort lt6 d2 a' b' = (x1, x2) := hx
                    rw [hx] at hc
                    rw [hx'] at p1 p2
                    replace p1 := Lib.hid p1
                    replace p2 := Lib.hid p2
                    clear hx hx' hBel2
                    go_wp2_with (go_at_call 40; refine hc.out.mono ?_; rintro e w4 ⟨rfl, hw4⟩; replace hw4 := Lib.hid hw4)
                    all_goals first
                      | (have hx2 : x2 = false := by assumption
                         go_meet
                         exact ⟨x1, HR4.out.trans hw4.out, Sort.permIn_trans _ _ _ _ _ HP2.out p1.out⟩)
                      | (have hx2 : x2 = true := by assumption
                         (try simp only [Exit.inBlock, Exit.then]); refine bodyPost_ret (results_none rfl _ _ _) rfl ?_
                         exact ⟨rfl, hFin.out _ _ (HR4.out.trans hw4.out) (Sort.permIn_trans _ _ _ _ _ HP2.out p1.out) (p2.out hx2)⟩)
                case rest =>
                  obtain ⟨d3, HR5, HP3⟩ := hcut
                  have hs3 : Aside (d3.size = n) := perm_size HP3.out hsk.out
                  have HB3 : Aside (Sort.Below lt6 a' b' d3) := HB.out.perm hbk.out HP3.out
                  obtain ⟨G, HG, hcw, hfw⟩ := HR5.out.fam hs3.out
                  obtain ⟨tb, htb⟩ : ∃ tb : Bool, tb = (decide (a' > 0) && !Sort.ltInt (G (a' - 1)) (G p)) := ⟨_, rfl⟩
                  have HT : Aside (tb = (decide (a' > 0) && !Sort.ltInt (G (a' - 1)) (G p))) := htb
                  clear htb
                  go_upto_region 17 with fail
                  go_cut [87] from 19 (fun s87 wx => s87 = .bool tb ∧ Aside (Rw blk off w wx d3))
                  case first =>
                    rcases Nat.eq_zero_or_pos a' with ha0 | ha0
                    · have ha0z : decide ((a' : Int) > 0) = false := decide_eq_false (by omega)
                      have ha0y : decide (0 < a') = false := decide_eq_false (by omega)
                      have hT2 : Aside (tb = false) := by show _ = _; rw [HT.out]; simp [ha0]
                      clear ha0
                      go_big_quiet (first | (go_at_call 41; refine Calls.quiet_of_same (less64 _ _ _)))
                      go_wp2_with fail
                      go_meet
                      case rel => exact ⟨by rw [hT2.out], HR5.out.drewN _⟩
                    · have ha0z : decide ((a' : Int) > 0) = true := decide_eq_true (by omega)
                      have ha0y : decide (0 < a') = true := decide_eq_true ha0
                      have hT2 : Aside (tb = !Sort.ltInt (G (a' - 1)) (G p)) := by show _ = _; rw [HT.out]; simp [ha0]
                      go_big_quiet (first | (go_at_call 41; refine Calls.quiet_of_same (less64 _ _ _)))
                      go_wp2_with fail
                      go_meet
                      case rel => exact ⟨by rw [hT2.out], HR5.out.drewN _⟩
                  case rest =>
                    obtain ⟨rfl, HR6⟩ := hcut
                    clear hcw hfw
                    cases tb
                    · obtain ⟨mid, ap, d4, hx⟩ : ∃ mid ap d4, Sort.partition Sort.ltInt d3 a' b' p = (mid, ap, d4) := ⟨(Sort.partition Sort.ltInt d3 a' b' p).1, (Sort.partition Sort.ltInt d3 a' b' p).2.1, (Sort.partition Sort.ltInt d3 a' b' p).2.2, rfl⟩
                      obtain ⟨r1, r2, r3, r4, r5, r6, r7⟩ := Sort.round_part (lt := lt6) Sort.swo_ltInt (Sort.partition_holds lt6) hp1 hp2 (by rw [hs3.out]; exact hb') HB3.out hx
                      have hc := part64 blk off cap a' b' p n d3 hs3.out wc HR6.out.row hp1 hp2 hb' hsz
                      rw [hx] at hc
                      replace hc := Lib.hid hc
                      have hs4 : Aside (d4.size = n) := r3.trans hs3.out
                      have r4' := Lib.hid r4
                      have r5' := Lib.hid r5
                      have r6' := Lib.hid r6
                      have r7' := Lib.hid r7
                      clear hx r3 r4 r5 r6 r7
                      go_upto_if 113 with (go_at_call 43; refine hc.out.mono ?_; rintro e w7 ⟨rfl, hw7⟩; have HR7 : Aside (Rw blk off w w7 d4) := (HR6.out.trans hw7); clear hw7)
                      by_cases h4 : mid - a' < b' - mid
                      · have h4z : (mid : Int) - (a' : Int) < (b' : Int) - (mid : Int) := by omega
                        have hih := Lib.hid (IH.out a' mid lim2 d4 w7 (by omega) hs4.out HR7.out.row r1 (by omega) (by omega) r4'.out)
                        go_wp2_with (go_at_call 33; refine hih.out.mono ?_; rintro e w8 ⟨rfl, hw8⟩; replace hw8 := Lib.hid hw8)
                        go_roundg (b' - (mid + 1))
                        case measure => omega
                        case rel =>
                          obtain ⟨L, g1, g2, g3⟩ := hw8.out
                          obtain ⟨q1, q2⟩ := r6'.out L g2 g3
                          exact ⟨mid + 1, b', lim2, _, ap, L, by go_num, rfl, rfl, rfl, rfl, by omega, hb', Nat.le_refl _, by omega, hlim2, perm_size g2 hs4.out, HR7.out.trans g1, q1, fun R h1 h2 => by
                            obtain ⟨q3, q4⟩ := q2 R h1 h2
                            exact HK.out R (Sort.permIn_trans _ _ _ _ _ HP3.out q3) q4⟩
                      · have h4z : ¬ ((mid : Int) - (a' : Int) < (b' : Int) - (mid : Int)) := by omega
                        have hih := IH.out (mid + 1) b' lim2 d4 w7 (by omega) hs4.out HR7.out.row (by omega) hb' (by omega) r5'.out
                        rw [show ((mid + 1 : Nat) : Int) = (mid : Int) + 1 by omega] at hih
                        replace hih := Lib.hid hih
                        go_wp2_with (go_at_call 33; refine hih.out.mono ?_; rintro e w8 ⟨rfl, hw8⟩; replace hw8 := Lib.hid hw8)
                        go_roundg (mid - a')
                        case measure => omega
                        case rel =>
                          obtain ⟨L, g1, g2, g3⟩ := hw8.out
                          obtain ⟨q1, q2⟩ := r7'.out L g2 g3
                          exact ⟨a', mid, lim2, _, ap, L, rfl, rfl, rfl, rfl, rfl, r1, by omega, Nat.le_refl _, by omega, hlim2, perm_size g2 hs4.out, HR7.out.trans g1, q1, fun R h1 h2 => by
                            obtain ⟨q3, q4⟩ := q2 R h1 h2
                            exact HK.out R (Sort.permIn_trans _ _ _ _ _ HP3.out q3) q4⟩
                    · have hT := HT.out
                      have hT1 : 0 < a' := by
                        rcases Nat.eq_zero_or_pos a' with h | h
                        · rw [h] at hT; simp at hT
                        · exact h
                      have hT2 : lt6 d3[a' - 1]! d3[p]! = false := by
                        rw [← HG.out, ← HG.out]
                        simp [hT1] at hT
                        exact hT
                      obtain ⟨mid, d4, hx⟩ : ∃ mid d4, Sort.partitionEqual Sort.ltInt d3 a' b' p = (mid, d4) := ⟨(Sort.partitionEqual Sort.ltInt d3 a' b' p).1, (Sort.partitionEqual Sort.ltInt d3 a' b' p).2, rfl⟩
                      obtain ⟨r1, r2, r3, r4, r5⟩ := Sort.round_eq (lt := lt6) Sort.swo_ltInt (Sort.partitionEqual_holds lt6) hT1 hp1 hp2 (by rw [hs3.out]; exact hb') HB3.out hT2 hx
                      have hc := peq64 blk off cap a' b' p n d3 hs3.out wc HR6.out.row hp1 hp2 hb' hsz
                      rw [hx] at hc
                      replace hc := Lib.hid hc
                      have hs4 : Aside (d4.size = n) := r3.trans hs3.out
                      have r4' := Lib.hid r4
                      have r5' := Lib.hid r5
                      clear hx r3 r4 r5 hT hT2
                      go_wp2_with (go_at_call 42; refine hc.out.mono ?_; rintro e w7 ⟨rfl, hw7⟩; replace hw7 := Lib.hid hw7)
                      go_roundg (b' - mid)
                      case measure => omega
                      case rel =>
                        exact ⟨mid, b', lim2, wb, wp, d4, rfl, rfl, rfl, rfl, rfl, r2, hb', Nat.le_refl _, by omega, hlim2, hs4, HR6.out.trans hw7.out, r4'.out, fun R h1 h2 => by
                          obtain ⟨q3, q4⟩ := r5'.out R h1 h2
                          exact HK.out R (Sort.permIn_trans _ _ _ _ _ HP3.out q3) q4⟩
set_option maxHeartbeats 8000000 in
set_option maxRecDepth 1000000 in
/-- slices.Sort[[]uint64, uint64]. -/
theorem sort64 (blk off cap n : Nat) (d : Array Int) (hn : d.size = n) (w : World) (hH : Sort.Holds eU w blk off d) (hsz : n < 4611686018427387904) :
    Calls Try.prog 30 #[.slice (some ⟨blk, off, none⟩) n cap] w fun e w' => e = .returned (.tuple #[]) ∧ PdqP blk off 0 n d w w' := by
  have hL := Lib.hid (fun W => len64 n hsz W)
  have hc : Hid (∀ k : Nat, k ≤ 62 → Calls Try.prog 33 #[.slice (some ⟨blk, off, none⟩) n cap, .int .i64 0, .int .i64 n, .int .i64 k] w fun e w' => e = .returned (.tuple #[]) ∧ PdqP blk off 0 n d w w') := Lib.hid fun k hk =>
    pdq64 blk off cap n hsz (n + 1) 0 n k d w (by omega) hn hH (Nat.zero_le _) (Nat.le_refl _) (by omega) (Or.inl rfl)
  have hwr : IntKind.u64.wrap (n : Int) = (n : Int) := by rw [IntKind.wrap_u64]; omega
  clear hH hn
  go_enter Try.func30, Try.ntmps30
  go_wp2_with (first
    | (go_at_call 34; refine (hL.out _).mono ?_; rintro e w' ⟨⟨k, hk, hkn, rfl⟩, rfl⟩; replace hkn := Lib.hid hkn)
    | (go_at_call 33; refine (hc.out _ hk).mono ?_; rintro e w' ⟨rfl, hP⟩; replace hP := Lib.hid hP))
  go_end0
  exact ⟨rfl, hP.out⟩
end Go.Proofs.Ytjbmmgclkhigiaa
