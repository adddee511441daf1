/- SeqsCounts: behind any numbers a row wants as many more as were taken. -/
import Derived.Test.YtahnjnmalahefaaSeqsAwake
import Derived.Test.YtahnjnmalahefaaArgs
namespace Go.Proofs.Ytahnjnmalahefaa
open Go.RowKit
theorem counts_walk (bg : Int) (a1 : Option Addr) (n1 c1 : Nat) (z1 : Nat → Int) (w : World) (hbg : (Lit.int .u8 bg).wf = true) (h1 : IntRow .u8 w a1 n1 z1) :
    Calls Try.prog 3 #[.int .u8 bg, .slice a1 n1 c1] w fun e w' => e = .returned (.bool true) ∧ Below w.heap.size w w' := by
  obtain ⟨hb0, hb1⟩ := bounds_u8 hbg
  clear hbg
  obtain ⟨hl1, h1⟩ := h1
  go_enter Try.func3, Try.ntmps3
  go_wp2_with fail
  refine (new_any _).mono ?_
  rintro e w1 ⟨b, rfl, hH, hb, hO⟩
  have T1 := Lib.hid (take_eq (r := (7, 0, false)) (n := bg) (by unfold sTake; rw [if_pos (by omega)]; rfl) _ hH)
  clear hH
  go_wp2_with fail
  refine T1.out.mono ?_
  rintro e w2 ⟨rfl, hH2, hO2⟩
  have T2 := Lib.hid (begin_eq (r := (0, (bg + 1) % 256, true)) (n := bg) (by unfold sBegin; rw [if_pos (by omega)]) _ hH2)
  clear hH2
  go_wp2_with fail
  refine T2.out.mono ?_
  rintro e w3 ⟨rfl, hH3, hO3⟩
  have hB3 := (hO.trans' (hO2.trans hO3) (by simp; omega)).below (Nat.le_refl _) (by simp)
  clear hO hO2 hO3 T1 T2
  go_wp2_with fail
  go_loopw [6, 7] (fun t i wr => ∃ (k t' : Nat), k ≤ n1 ∧ k ≤ 80 ∧ t' ≤ k ∧ i = .int .i64 k ∧ t = .int .i64 t' ∧ RowAt wr b ((bg + 1 + t') % 256) true ∧ Below w.heap.size w wr)
    (fun _ i _ => 80 - (intOf i).toNat)
  case atStart => exact ⟨0, 0, by omega, by omega, by omega, rfl, rfl, by simpa using hH3, hB3⟩
  case round =>
    obtain ⟨k, t, hk1, hk2, ht, rfl, rfl, hH, hB⟩ := hrel
    by_cases hlt : k < n1 ∧ k < 80
    · obtain ⟨hlt1, hlt2⟩ := hlt
      obtain ⟨b1, o1, rfl, hbb, hc⟩ := h1 (by omega)
      have hcw := hc k hlt1
      have hbz := bounds_u8 hcw.2
      have hz0 := hbz.1
      have hz1 := hbz.2
      have hc1 : wr.cell? ⟨b1, o1 + k, none⟩ = some (.int .u8 (z1 k)) := (hB.cell (p := ⟨b1, o1 + k, none⟩) hbb).trans hcw.1
      generalize z1 k = z at *
      obtain ⟨v, hv⟩ : ∃ v, (bg + 1 + (t : Int)) % 256 = v := ⟨_, rfl⟩
      have hv0 : 0 ≤ v := by omega
      have hv1 : v ≤ 255 := by omega
      have hv2 : (bg + 1 + ((t : Int) + 1)) % 256 = (v + 1) % 256 := by omega
      rw [hv] at hH
      have hBs := hB.size
      have hyes : ∀ w2, RowAt w2 b ((v + 1) % 256) true → Own [b] wr w2 → ∃ (k' t' : Nat), k' ≤ n1 ∧ k' ≤ 80 ∧ t' ≤ k' ∧ Value.int .i64 (k + 1) = .int .i64 k' ∧ Value.int .i64 (t + 1) = .int .i64 t' ∧ RowAt w2 b ((bg + 1 + t') % 256) true ∧ Below w.heap.size w w2 :=
        fun w2 h2 ho => ⟨k + 1, t + 1, by omega, by omega, by omega, by go_num, by go_num, by rw [show (bg + 1 + ((t + 1 : Nat) : Int)) % 256 = (v + 1) % 256 by omega]; exact h2, hB.trans (ho.below hBs (by simp; omega))⟩
      have hno : ∀ w2, RowAt w2 b v true → Own [b] wr w2 → ∃ (k' t' : Nat), k' ≤ n1 ∧ k' ≤ 80 ∧ t' ≤ k' ∧ Value.int .i64 (k + 1) = .int .i64 k' ∧ Value.int .i64 t = .int .i64 t' ∧ RowAt w2 b ((bg + 1 + t') % 256) true ∧ Below w.heap.size w w2 :=
        fun w2 h2 ho => ⟨k + 1, t, by omega, by omega, by omega, by go_num, rfl, by rw [hv]; exact h2, hB.trans (ho.below hBs (by simp; omega))⟩
      have hyes := Lib.hid hyes
      have hno := Lib.hid hno
      have T3 := Lib.hid (take_eq (r := (0, (v + 1) % 256, true)) (n := v) (by unfold sTake; rw [if_pos (by omega), if_pos rfl, if_pos rfl]) _ hH)
      have hH' := Lib.hid hH
      clear hH hB hBs hc hcw hH3 hB3 hbz
      by_cases hk : k % 2 = 0
      · have hkb : ((k : Int) % 2 == 0) = true := by simp; omega
        clear hk
        go_wp2_with fail
        refine T3.out.mono ?_
        rintro e w4 ⟨rfl, hH4, hO4⟩
        have T4 := Lib.hid (want_any _ _ _ _ hH4)
        have hH4 := Lib.hid hH4
        simp only [if_true] at T4
        go_wp2_with fail
        refine T4.out.mono ?_
        rintro e w5 ⟨rfl, rfl⟩
        go_wp2_with fail
        go_roundw
        case rel => exact hyes.out _ hH4.out hO4
        case measure => simp [intOf]; omega
      · have hkb : ((k : Int) % 2 == 0) = false := by simp; omega
        clear hk
        by_cases hz : z = v
        · subst hz
          go_wp2_with fail
          refine T3.out.mono ?_
          rintro e w4 ⟨rfl, hH4, hO4⟩
          have T4 := Lib.hid (want_any _ _ _ _ hH4)
          have hH4 := Lib.hid hH4
          simp only [if_true] at T4
          go_wp2_with fail
          refine T4.out.mono ?_
          rintro e w5 ⟨rfl, rfl⟩
          go_wp2_with fail
          go_roundw
          case rel => exact hyes.out _ hH4.out hO4
          case measure => simp [intOf]; omega
        · have T5 := Lib.hid (take_eq (r := (1, v, true)) (n := z) (by unfold sTake; rw [if_pos (by omega), if_pos rfl, if_neg hz]) _ hH'.out)
          have hzb : (z == v) = false := by simpa using hz
          clear hz
          go_wp2_with fail
          refine T5.out.mono ?_
          rintro e w4 ⟨rfl, hH4, hO4⟩
          have T4 := Lib.hid (want_any _ _ _ _ hH4)
          have hH4 := Lib.hid hH4
          simp only [if_true] at T4
          go_wp2_with fail
          refine T4.out.mono ?_
          rintro e w5 ⟨rfl, rfl⟩
          go_wp2_with fail
          go_roundw
          case rel => exact hno.out _ hH4.out hO4
          case measure => simp [intOf]; omega
    · have hS := hB.size
      have hA := Lib.hid (awake_any wr)
      have hH' := Lib.hid hH
      clear hH hH3 hB3 h1
      by_cases q0 : k < n1
      · have q2 : ¬ k < 80 := fun q2 => hlt ⟨q0, q2⟩
        clear hlt
        go_wp2_with fail
        refine hA.out.mono ?_
        rintro e w3 ⟨rfl, hA3⟩
        go_wp2_with fail
        go_ret
        exact ⟨rfl, hB.trans (hA3.below hS (by simp))⟩
      · clear hlt
        go_wp2_with fail
        refine hA.out.mono ?_
        rintro e w3 ⟨rfl, hA3⟩
        go_wp2_with fail
        go_ret
        exact ⟨rfl, hB.trans (hA3.below hS (by simp))⟩
end Go.Proofs.Ytahnjnmalahefaa
