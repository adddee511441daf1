/- The namespace (chapter 20): words, kinds, widths. -/
import Derived.Test.YtecociaolohfmaaGreatDoorProg
import Derived.Test.YtecociaolohfmaaGreatDoorBase
import Derived.Deep.LoopGhost
import Derived.Lib.Strings
set_option linter.unusedSimpArgs false
set_option linter.unusedVariables false
namespace Go.Proofs.YtecociaolohfmaaGreatDoor
open Go.RowKit

/-- The kinds' words. -/
def spWord (k : Int) : ByteArray := if k = 1 then ⟨#[78, 66, 73, 82, 84, 72]⟩ else if k = 2 then ⟨#[78, 68, 69, 65, 84, 72]⟩ else if k = 3 then ⟨#[78, 68, 65, 84, 65]⟩ else if k = 4 then ⟨#[78, 67, 77, 68]⟩
  else if k = 5 then ⟨#[68, 66, 73, 82, 84, 72]⟩ else if k = 6 then ⟨#[68, 68, 69, 65, 84, 72]⟩ else if k = 7 then ⟨#[68, 68, 65, 84, 65]⟩ else if k = 8 then ⟨#[68, 67, 77, 68]⟩ else if k = 9 then ⟨#[83, 84, 65, 84, 69]⟩ else ⟨#[]⟩
/-- The program's table of words holds them. -/
def WordsAt (w : World) : Prop := ∀ k : Nat, k < 10 → w.cell? ⟨0, k, none⟩ = some (.string (spWord k))
theorem WordsAt.own {w w' : World} (h : WordsAt w) (ho : Own [] w w') : WordsAt w' := fun k hk => (ho.cell (block_lt_of_cell (h k hk)) (by simp)).trans (h k hk)
/-- The kind of a word: the first from k on. -/
def spFrom (w : ByteArray) : Nat → Nat → Int
  | 0, _ => 0
  | f + 1, k => if spWord k = w then k else spFrom w f (k + 1)
def spKind (w : ByteArray) : Int := spFrom w 9 1
set_option maxRecDepth 100000 in
set_option maxHeartbeats 2000000 in
theorem kind_any (x : ByteArray) (w : World) (hW : WordsAt w) : Calls Tryz.prog 52 #[.string x] w fun e w' => e = .returned (.int .i64 (spKind x)) ∧ w = w' := by
  obtain ⟨R, hR⟩ : ∃ R, spKind x = R := ⟨_, rfl⟩
  rw [hR]
  have hst := Lib.hid (show spFrom x 9 1 = R from hR)
  replace hW := Lib.hid hW
  clear hR
  go_enter Tryz.func52, Tryz.ntmps52
  go_wp2_with fail
  go_loopg [3] 9 (fun g s3 wr => ∃ k : Nat, s3 = .int .i64 k ∧ k + g = 10 ∧ Aside (wr = w ∧ spFrom x g k = R))
  case atStart => exact ⟨1, rfl, rfl, rfl, hst.out⟩
  case round =>
    obtain ⟨k, rfl, hg, rfl, hF⟩ := hrel
    have hw1 : IntKind.i64.wrap ((k : Int) + 1) = ((k + 1 : Nat) : Int) := by rw [IntKind.wrap_i64]; omega
    clear hst
    by_cases hlt : k < 10
    · have k1 : (k : Int) ≤ 9 := by omega
      have k0 : (0 : Int) ≤ k := by omega
      have k2 : (k : Int) < 10 := by omega
      have c0 := hW.out k hlt
      obtain ⟨g, rfl⟩ : ∃ g0, gk = g0 + 1 := ⟨gk - 1, by omega⟩
      unfold spFrom at hF
      by_cases hx : spWord k = x
      · rw [if_pos hx] at hF
        have q1 : ((spWord (k : Int)).toList == x.toList) = true := by rw [hx]; simp
        subst hF
        subst hx
        replace hg := Lib.hid hg
        go_wp2_with fail
        go_ret
        exact ⟨rfl, rfl⟩
      · rw [if_neg hx] at hF
        have q1 : ((spWord (k : Int)).toList == x.toList) = false := by
          simp only [beq_eq_false_iff_ne]
          intro h
          exact hx (by rw [Lib.toList_data, Lib.toList_data] at h; exact ByteArray.ext (Array.ext' h))
        replace hg := Lib.hid hg
        replace hF := Lib.hid hF
        clear hx
        go_wp2_with fail
        go_roundg g
        case rel => exact ⟨k + 1, by go_num, by have := hg.out; omega, rfl, hF.out⟩
        case measure => omega
    · have k1 : ¬ (k : Int) ≤ 9 := by omega
      obtain rfl : gk = 0 := by omega
      have hF0 : (0 : Int) = R := hF
      subst hF0
      clear hF hg
      go_wp2_with fail
      go_ret
      exact ⟨rfl, rfl⟩
theorem word_bad (k : Int) (h : k < 0 ∨ 9 < k) : spWord k = ⟨#[]⟩ := by
  unfold spWord
  rw [if_neg (by omega), if_neg (by omega), if_neg (by omega), if_neg (by omega), if_neg (by omega), if_neg (by omega), if_neg (by omega), if_neg (by omega), if_neg (by omega)]
set_option maxRecDepth 100000 in
set_option maxHeartbeats 2000000 in
theorem spword_any (k : Int) (w : World) (hW : WordsAt w) : Calls Tryz.prog 93 #[.int .i64 k] w fun e w' => e = .returned (.string (spWord k)) ∧ w = w' := by
  by_cases h0 : k < 0
  · rw [word_bad k (.inl h0)]
    go_enter Tryz.func93, Tryz.ntmps93
    go_wp2_with fail
    go_ret
    exact ⟨rfl, rfl⟩
  · by_cases h9 : 9 < k
    · rw [word_bad k (.inr h9)]
      go_enter Tryz.func93, Tryz.ntmps93
      go_wp2_with fail
      go_ret
      exact ⟨rfl, rfl⟩
    · obtain ⟨n, rfl⟩ := Int.eq_ofNat_of_zero_le (show 0 ≤ k by omega)
      have c0 := hW n (by omega)
      have k2 : (n : Int) < 10 := by omega
      replace hW := Lib.hid hW
      go_enter Tryz.func93, Tryz.ntmps93
      go_wp2_with fail
      go_ret
      exact ⟨rfl, rfl⟩
def spWidth (k : Int) : Int := if k = 9 then 3 else if 5 ≤ k then 5 else 4
theorem width_any (k : Int) (w : World) : Calls Tryz.prog 54 #[.int .i64 k] w fun e w' => e = .returned (.int .i64 (spWidth k)) ∧ w = w' := by
  unfold spWidth
  by_cases h9 : k = 9
  · subst h9
    rw [if_pos rfl]
    go_enter Tryz.func54, Tryz.ntmps54
    go_wp2_with fail
    go_ret
    exact ⟨rfl, rfl⟩
  · rw [if_neg h9]
    have q1 : (k == 9) = false := by simpa using h9
    by_cases h5 : 5 ≤ k
    · rw [if_pos h5]
      have q2 : decide (5 ≤ k) = true := by simpa using h5
      go_enter Tryz.func54, Tryz.ntmps54
      go_wp2_with fail
      go_ret
      exact ⟨rfl, rfl⟩
    · rw [if_neg h5]
      have q2 : decide (5 ≤ k) = false := by simpa using h5
      go_enter Tryz.func54, Tryz.ntmps54
      go_wp2_with fail
      go_ret
      exact ⟨rfl, rfl⟩
end Go.Proofs.YtecociaolohfmaaGreatDoor
