/- Scripts (chapter 40): a word's number. -/
import Derived.Test.YtnppgidbfmbdgaaDoorScript1
import Derived.Deep.LoopGhost
set_option linter.unusedSimpArgs false
set_option linter.unusedVariables false
namespace Go.Proofs.YtnppgidbfmbdgaaDoor
open Go.RowKit

/-- The number of k digits from place i on, behind those that came to acc. -/
def numF (s : ByteArray) : Nat → Nat → Nat → Option Nat
  | 0, _, acc => some acc
  | k + 1, i, acc => if 48 ≤ (s.get! i).toNat ∧ (s.get! i).toNat ≤ 57 then numF s k (i + 1) (10 * acc + (s.get! i).toNat - 48) else none
/-- A word's number. -/
def scNum (s : ByteArray) : Option Nat :=
  if s.size < 1 ∨ 10 < s.size ∨ ((s.get! 0).toNat = 48 ∧ 1 < s.size) then none else match numF s s.size 0 0 with
    | some n => if n ≤ 1073741824 then some n else none
    | none => none
def numV (o : Option Nat) : Int := match o with | some n => n | none => -1
theorem get_at (s : ByteArray) (j : Nat) (h : j < s.size) : s.get! j = s[j]'h := by
  obtain ⟨d⟩ := s
  have h' : j < d.size := h
  show d[j]! = d[j]
  simp [h']
theorem pow_le_10 {i : Nat} (h : i ≤ 10) : 10 ^ i ≤ 10000000000 := by
  have := Nat.pow_le_pow_right (show 0 < 10 by omega) h
  simpa using this
set_option maxRecDepth 100000 in
set_option maxHeartbeats 4000000 in
theorem rnumber_any (s : ByteArray) (w : World) : Calls Tryd.prog 25 #[.string s] w fun e w' => e = .returned (.int .i64 (numV (scNum s))) ∧ Own [] w w' := by
  by_cases c1 : s.size < 1
  · have e1 : scNum s = none := by unfold scNum; rw [if_pos (.inl c1)]
    rw [e1]
    have k1 : decide ((s.size : Int) < 1) = true := by simp; omega
    have k2 : (s.size : Int) < 1 := by omega
    go_enter Tryd.func25, Tryd.ntmps25
    go_wp2_with fail
    go_ret
    exact ⟨rfl, Own.refl _ _⟩
  · have k2 : ¬ (s.size : Int) < 1 := by omega
    have k1 : decide ((s.size : Int) < 1) = false := by simpa using k2
    by_cases c2 : 10 < s.size
    · have e1 : scNum s = none := by unfold scNum; rw [if_pos (.inr (.inl c2))]
      rw [e1]
      have k3 : (10 : Int) < (s.size : Int) := by omega
      have k4 : decide ((10 : Int) < (s.size : Int)) = true := by simpa using k3
      go_enter Tryd.func25, Tryd.ntmps25
      go_wp2_with fail
      go_ret
      exact ⟨rfl, Own.refl _ _⟩
    · have k3 : ¬ (10 : Int) < (s.size : Int) := by omega
      have k4 : decide ((10 : Int) < (s.size : Int)) = false := by simpa using k3
      have hp : 0 < s.size := by omega
      have he0 : ((s[0]'hp).toNat : Int) = ((s.get! 0).toNat : Int) := by rw [get_at s 0 hp]
      have k5 : (0 : Int) < (s.size : Int) := by omega
      by_cases c3 : (s.get! 0).toNat = 48 ∧ 1 < s.size
      · have e1 : scNum s = none := by unfold scNum; rw [if_pos (.inr (.inr c3))]
        rw [e1]
        have h48 : ((s[0]'hp).toNat : Int) = 48 := by rw [he0, c3.1]; rfl
        have k6 : (1 : Int) < (s.size : Int) := by have := c3.2; omega
        have k7 : decide ((1 : Int) < (s.size : Int)) = true := by simpa using k6
        clear he0 c3 e1
        go_enter Tryd.func25, Tryd.ntmps25
        go_wp2_with fail
        go_ret
        exact ⟨rfl, Own.refl _ _⟩
      · have e1 : scNum s = match numF s s.size 0 0 with | some n => if n ≤ 1073741824 then some n else none | none => none := by unfold scNum; rw [if_neg (by omega)]
        rw [e1]
        have hs10 : s.size ≤ 10 := by omega
        have hq : (((s[0]'hp).toNat : Int) == 48) = true ∧ decide ((1 : Int) < (s.size : Int)) = false ∨ (((s[0]'hp).toNat : Int) == 48) = false := by
          by_cases h48 : (s.get! 0).toNat = 48
          · refine .inl ⟨by rw [he0, h48]; rfl, ?_⟩
            have : ¬ 1 < s.size := fun h => c3 ⟨h48, h⟩
            simp; omega
          · refine .inr ?_
            rw [he0]
            simp; omega
        obtain ⟨r, hr⟩ : ∃ r, numF s s.size 0 0 = r := ⟨_, rfl⟩
        rw [hr]
        have hF0 := Lib.hid (show numF s (s.size - 0) 0 0 = r by rw [Nat.sub_zero]; exact hr)
        clear c3 e1 he0 c1 c2 hr
        rcases hq with ⟨q1, q2⟩ | q1
        all_goals
          go_enter Tryd.func25, Tryd.ntmps25
          go_wp2_with fail
          go_loopg [3, 4] s.size (fun g s3 s4 wr => ∃ (acc i : Nat), s3 = .int .i64 acc ∧ s4 = .int .i64 i ∧ g = s.size - i ∧ i ≤ s.size ∧ acc < 10 ^ i ∧ Aside (numF s (s.size - i) i acc = r ∧ Own [] w wr))
          case atStart => exact ⟨0, 0, rfl, rfl, rfl, Nat.zero_le _, by simp, hF0.out, Own.refl _ _⟩
          case round =>
            obtain ⟨acc, i, rfl, rfl, rfl, hi, hacc, hF, hO⟩ := hrel
            have hpi := pow_le_10 (show i ≤ 10 by omega)
            have ha10 : acc < 10000000000 := by omega
            clear hF0 q1 k5
            replace hO := Lib.hid hO
            by_cases hlt : i < s.size
            · have h1 : (i : Int) < s.size := by omega
              have h0 : (0 : Int) ≤ i := by omega
              have he : ((s[i]'hlt).toNat : Int) = ((s.get! i).toNat : Int) := by rw [get_at s i hlt]
              have hb : (s.get! i).toNat < 256 := (s.get! i).toNat_lt
              have hkk : s.size - i = (s.size - (i + 1)) + 1 := by omega
              rw [hkk] at hF
              unfold numF at hF
              by_cases hd : 48 ≤ (s.get! i).toNat ∧ (s.get! i).toNat ≤ 57
              · rw [if_pos hd] at hF
                have r1 : decide (((s[i]'hlt).toNat : Int) < 48) = false := by rw [he]; simp; omega
                have r2 : decide ((57 : Int) < ((s[i]'hlt).toNat : Int)) = false := by rw [he]; simp; omega
                have r3 : ¬ ((s[i]'hlt).toNat : Int) < 48 := by rw [he]; omega
                have r4 : ¬ (57 : Int) < ((s[i]'hlt).toNat : Int) := by rw [he]; omega
                have hac2 : 10 * acc + (s.get! i).toNat - 48 < 10 ^ (i + 1) := by rw [Nat.pow_succ]; omega
                have w1 : IntKind.i64.wrap (10 * (acc : Int)) = 10 * acc := IntWalk.i64_in _ (by omega)
                have w2 : IntKind.i64.wrap ((s[i]'hlt).toNat : Int) = ((s[i]'hlt).toNat : Int) := IntWalk.i64_in _ (by rw [he]; omega)
                have w3 : IntKind.i64.wrap (10 * (acc : Int) + ((s[i]'hlt).toNat : Int)) = 10 * acc + ((s[i]'hlt).toNat : Int) := IntWalk.i64_in _ (by rw [he]; omega)
                have w4 : IntKind.i64.wrap (10 * (acc : Int) + ((s[i]'hlt).toNat : Int) - 48) = 10 * acc + ((s[i]'hlt).toNat : Int) - 48 := IntWalk.i64_in _ (by rw [he]; omega)
                have w5 : (10 * (acc : Int) + ((s[i]'hlt).toNat : Int) - 48) = ((10 * acc + (s.get! i).toNat - 48 : Nat) : Int) := by rw [he]; omega
                replace hF := Lib.hid hF
                replace hac2 := Lib.hid hac2
                replace he := Lib.hid he
                replace w5 := Lib.hid w5
                replace hb := Lib.hid hb
                clear hd hacc hpi ha10 hkk
                go_wp2_with fail
                go_roundg (s.size - (i + 1))
                case measure => omega
                case rel => exact ⟨10 * acc + (s.get! i).toNat - 48, i + 1, by simp [w1, w2, w3, w4, w5.out], by go_num, rfl, by omega, hac2.out, hF.out, hO.out⟩
              · rw [if_neg hd] at hF
                subst hF
                have hdd : (decide (((s[i]'hlt).toNat : Int) < 48) = true) ∨ (decide (((s[i]'hlt).toNat : Int) < 48) = false ∧ decide ((57 : Int) < ((s[i]'hlt).toNat : Int)) = true) := by
                  rw [he]
                  by_cases h : (s.get! i).toNat < 48
                  · exact .inl (by simp; omega)
                  · exact .inr ⟨by simp; omega, by simp; omega⟩
                replace he := Lib.hid he
                clear hd hb hkk
                rcases hdd with r1 | ⟨r1, r2⟩
                all_goals
                  go_wp2_with fail
                  go_ret
                  exact ⟨rfl, hO.out⟩
            · obtain rfl : i = s.size := by omega
              rw [Nat.sub_self] at hF
              unfold numF at hF
              subst hF
              by_cases hm : acc ≤ 1073741824
              · have m1 : decide ((1073741824 : Int) < (acc : Int)) = false := by simp; omega
                have m2 : ¬ (1073741824 : Int) < (acc : Int) := by omega
                go_wp2_with fail
                go_ret
                exact ⟨by simp [hm, numV], hO.out⟩
              · have m1 : decide ((1073741824 : Int) < (acc : Int)) = true := by simp; omega
                have m2 : (1073741824 : Int) < (acc : Int) := by omega
                go_wp2_with fail
                go_ret
                exact ⟨by simp [hm, numV], hO.out⟩
end Go.Proofs.YtnppgidbfmbdgaaDoor
