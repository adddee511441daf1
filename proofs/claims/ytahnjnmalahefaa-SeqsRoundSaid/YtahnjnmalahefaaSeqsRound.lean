/- SeqsRound: the number behind one is one step on. -/
import Derived.Test.YtahnjnmalahefaaSeqsAwake
import Derived.Test.YtahnjnmalahefaaArgs
namespace Go.Proofs.Ytahnjnmalahefaa
open Go.RowKit
set_option maxRecDepth 100000 in
theorem round_walk (a b s : Int) (w : World) (ha : (Lit.int .i64 a).wf = true) (hb : (Lit.int .i64 b).wf = true) (hs : (Lit.int .u16 s).wf = true) :
    Calls Try.prog 4 #[.int .i64 a, .int .i64 b, .int .u16 s] w fun e w' => e = .returned (.bool true) ∧ Below w.heap.size w w' := by
  obtain ⟨ha0, ha1⟩ := bounds_i64 ha
  obtain ⟨hb0, hb1⟩ := bounds_i64 hb
  obtain ⟨hs0, hs1⟩ := bounds_u16 hs
  clear ha hb hs
  have R1 := Lib.hid (rnext_any a w ha0 ha1)
  have R2 := Lib.hid (rgap_any a b w ha0 ha1 hb0 hb1)
  go_enter Try.func4, Try.ntmps4
  go_wp2_with fail
  refine (gap_any _ _ _).mono ?_
  rintro e w1 ⟨rfl, rfl⟩
  go_wp2_with fail
  refine (next_any _ _).mono ?_
  rintro e w1 ⟨rfl, rfl⟩
  go_wp2_with fail
  refine R1.out.mono ?_
  rintro e w1 ⟨rfl, rfl⟩
  go_wp2_with fail
  refine R2.out.mono ?_
  rintro e w1 ⟨rfl, rfl⟩
  go_wp2_with fail
  refine (next_any _ _).mono ?_
  rintro e w1 ⟨rfl, rfl⟩
  go_wp2_with fail
  refine (gap_any _ _ _).mono ?_
  rintro e w1 ⟨rfl, rfl⟩
  have e1 : ((a + 1) % 256 - a) % 256 = 1 := by omega
  go_wp2_with fail
  refine (gap_any _ _ _).mono ?_
  rintro e w1 ⟨rfl, rfl⟩
  have e2 : (a - 0) % 256 = a % 256 := by omega
  rw [e2]
  clear e1 e2 R1 R2
  go_wp2_with fail
  go_loop [8, 9] (fun n i => ∃ (k : Nat), (k : Int) ≤ s % 600 ∧ i = .int .i64 k ∧ n = .int .i64 ((a + k) % 256)) (fun _ i => 600 - (intOf i).toNat)
  case atStart => exact ⟨0, by omega, rfl, by simp⟩
  case round =>
    obtain ⟨k, hk, rfl, rfl⟩ := hrel
    have hk6 : (k : Int) < 600 := by omega
    by_cases hlt : (k : Int) < s % 600
    · go_wp2_with fail
      refine (next_any _ _).mono ?_
      rintro e w1 ⟨rfl, rfl⟩
      go_wp2_with fail
      go_round
      case rel => exact ⟨k + 1, by omega, by go_num, by rw [show a + (k : Int) + 1 = a + ((k + 1 : Nat) : Int) by omega]⟩
      case measure => simp [intOf]; omega
    · have e4 : ((a + k) % 256 - a) % 256 = s % 600 % 256 := by omega
      have e5 : ((b - a) % 256 + (a - b) % 256) % 256 = 0 := by omega
      have hge : s % 600 ≤ (k : Int) := by omega
      clear hk hlt
      go_wp2_with fail
      refine (gap_any _ _ _).mono ?_
      rintro e w1 ⟨rfl, rfl⟩
      rw [e4]
      clear e4
      go_wp2_with fail
      refine (gap_any _ _ _).mono ?_
      rintro e w1 ⟨rfl, rfl⟩
      go_wp2_with fail
      refine (gap_any _ _ _).mono ?_
      rintro e w1 ⟨rfl, rfl⟩
      go_wp2_with fail
      refine (awake_any _).mono ?_
      rintro e w3 ⟨rfl, hA3⟩
      go_wp2_with fail
      go_ret
      exact ⟨rfl, hA3.below (Nat.le_refl _) (by simp)⟩
end Go.Proofs.Ytahnjnmalahefaa
