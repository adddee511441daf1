/- Scripts (chapter 40): words of kinds, signs' values. -/
import Derived.Test.YtnppgidbfmbdgaaDoorBase
import Derived.Test.YtnppgidbfmbdgaaDoorShelf
import Derived.Shelf.Small.Strs
set_option linter.unusedSimpArgs false
set_option linter.unusedVariables false
namespace Go.Proofs.YtnppgidbfmbdgaaDoor
open Go.RowKit

/-- A kind's word. -/
def scWord (k : Int) : ByteArray := if k = 0 then ⟨#[111, 112, 101, 110]⟩ else if k = 1 then ⟨#[98, 121, 116, 101, 115]⟩ else if k = 2 then ⟨#[99, 108, 111, 115, 101]⟩ else if k = 3 then ⟨#[116, 105, 99, 107]⟩ else if k = 4 then ⟨#[115, 101, 114, 118, 101]⟩ else ⟨#[]⟩
/-- What stands behind it: 0 a connection, 1 a time, 2 a connection and bytes. -/
def scWhat (k : Int) : Int := if k = 1 then 2 else if k = 3 then 1 else 0
def scIs (k : Int) : Bool := decide (0 ≤ k ∧ k ≤ 4)
theorem form_any (k : Int) (w : World) : Calls Tryd.prog 18 #[.int .i64 k] w fun e w' => e = .returned (.tuple #[.string (scWord k), .int .i64 (scWhat k), .bool (scIs k)]) ∧ w = w' := by
  by_cases h0 : k = 0
  · subst h0
    go_enter Tryd.func18, Tryd.ntmps18
    go_wp2_with fail
    refine bodyPost_ret (v := .tuple #[.string ⟨#[111, 112, 101, 110]⟩, .int .i64 0, .bool true]) (by simp [results, Tryd.results18, go_sem]) rfl ⟨rfl, rfl⟩
  · by_cases h1 : k = 1
    · subst h1
      go_enter Tryd.func18, Tryd.ntmps18
      go_wp2_with fail
      refine bodyPost_ret (v := .tuple #[.string ⟨#[98, 121, 116, 101, 115]⟩, .int .i64 2, .bool true]) (by simp [results, Tryd.results18, go_sem]) rfl ⟨rfl, rfl⟩
    · by_cases h2 : k = 2
      · subst h2
        go_enter Tryd.func18, Tryd.ntmps18
        go_wp2_with fail
        refine bodyPost_ret (v := .tuple #[.string ⟨#[99, 108, 111, 115, 101]⟩, .int .i64 0, .bool true]) (by simp [results, Tryd.results18, go_sem]) rfl ⟨rfl, rfl⟩
      · by_cases h3 : k = 3
        · subst h3
          go_enter Tryd.func18, Tryd.ntmps18
          go_wp2_with fail
          refine bodyPost_ret (v := .tuple #[.string ⟨#[116, 105, 99, 107]⟩, .int .i64 1, .bool true]) (by simp [results, Tryd.results18, go_sem]) rfl ⟨rfl, rfl⟩
        · by_cases h4 : k = 4
          · subst h4
            go_enter Tryd.func18, Tryd.ntmps18
            go_wp2_with fail
            refine bodyPost_ret (v := .tuple #[.string ⟨#[115, 101, 114, 118, 101]⟩, .int .i64 0, .bool true]) (by simp [results, Tryd.results18, go_sem]) rfl ⟨rfl, rfl⟩
          · have k0 : (k == 0) = false := by simpa using h0
            have k1 : (k == 1) = false := by simpa using h1
            have k2 : (k == 2) = false := by simpa using h2
            have k3 : (k == 3) = false := by simpa using h3
            have k4 : (k == 4) = false := by simpa using h4
            have e1 : scWord k = ⟨#[]⟩ := by unfold scWord; rw [if_neg h0, if_neg h1, if_neg h2, if_neg h3, if_neg h4]
            have e2 : scWhat k = 0 := by unfold scWhat; rw [if_neg h1, if_neg h3]
            have e3 : scIs k = false := by unfold scIs; simp; omega
            rw [e1, e2, e3]
            clear e1 e2 e3
            go_enter Tryd.func18, Tryd.ntmps18
            go_wp2_with fail
            refine bodyPost_ret (v := .tuple #[.string ⟨#[]⟩, .int .i64 0, .bool false]) (by simp [results, Tryd.results18, go_sem]) rfl ⟨rfl, rfl⟩
theorem word_any (k : Int) (w : World) (h : 0 ≤ k ∧ k ≤ 4) : Calls Tryd.prog 20 #[.int .i64 k] w fun e w' => e = .returned (.string (scWord k)) ∧ w = w' := by
  have hk : k = 0 ∨ k = 1 ∨ k = 2 ∨ k = 3 ∨ k = 4 := by omega
  rcases hk with rfl | rfl | rfl | rfl | rfl
  all_goals
    clear h
    go_enter Tryd.func20, Tryd.ntmps20
    go_wp2_with fail
    go_ret
    exact ⟨rfl, rfl⟩

/-- A sign's value; -1: it has none. -/
def scHalf (c : Int) : Int := if 48 ≤ c ∧ c ≤ 57 then c - 48 else if 97 ≤ c ∧ c ≤ 102 then c - 87 else -1
def hexW : ByteArray := ⟨#[48, 49, 50, 51, 52, 53, 54, 55, 56, 57, 97, 98, 99, 100, 101, 102]⟩
theorem index_half : ∀ c : Fin 256, Lib.indexByte hexW.data.toList (UInt8.ofNat c.val) = scHalf c.val := by decide +kernel
theorem index_half' (c : Int) (h0 : 0 ≤ c) (h1 : c < 256) : Lib.indexByte hexW.data.toList c.toNat.toUInt8 = scHalf c := by
  have := index_half ⟨c.toNat, by omega⟩
  simp only at this
  rw [show ((c.toNat : Nat) : Int) = c by omega] at this
  exact this
theorem rhalf_any (c : Int) (h0 : 0 ≤ c) (h1 : c < 256) (w : World) : Calls Tryd.prog 36 #[.int .u8 c] w fun e w' => e = .returned (.int .i64 (scHalf c)) ∧ w = w' := by
  unfold scHalf
  by_cases ha : 48 ≤ c
  · by_cases hb : c ≤ 57
    · rw [if_pos ⟨ha, hb⟩]
      have q1 : decide (48 ≤ c) = true := by simpa using ha
      have q2 : decide (c ≤ 57) = true := by simpa using hb
      have q3 : IntKind.i64.wrap c = c := IntWalk.i64_in _ (by omega)
      have q4 : IntKind.i64.wrap (c - 48) = c - 48 := IntWalk.i64_in _ (by omega)
      go_enter Tryd.func36, Tryd.ntmps36
      go_wp2_with fail
      go_ret
      exact ⟨by simp [q3, q4], rfl⟩
    · rw [if_neg (by omega)]
      have q1 : decide (48 ≤ c) = true := by simpa using ha
      have q2 : decide (c ≤ 57) = false := by simpa using hb
      by_cases hc : 97 ≤ c
      · by_cases hd : c ≤ 102
        · rw [if_pos ⟨hc, hd⟩]
          have q5 : decide (97 ≤ c) = true := by simpa using hc
          have q6 : decide (c ≤ 102) = true := by simpa using hd
          have q3 : IntKind.i64.wrap c = c := IntWalk.i64_in _ (by omega)
          have q4 : IntKind.i64.wrap (c - 87) = c - 87 := IntWalk.i64_in _ (by omega)
          go_enter Tryd.func36, Tryd.ntmps36
          go_wp2_with fail
          go_ret
          exact ⟨by simp [q3, q4], rfl⟩
        · rw [if_neg (by omega)]
          have q5 : decide (97 ≤ c) = true := by simpa using hc
          have q6 : decide (c ≤ 102) = false := by simpa using hd
          go_enter Tryd.func36, Tryd.ntmps36
          go_wp2_with fail
          go_ret
          exact ⟨rfl, rfl⟩
      · rw [if_neg (by omega)]
        have q5 : decide (97 ≤ c) = false := by simpa using hc
        go_enter Tryd.func36, Tryd.ntmps36
        go_wp2_with fail
        go_ret
        exact ⟨rfl, rfl⟩
  · rw [if_neg (by omega), if_neg (by omega)]
    have q1 : decide (48 ≤ c) = false := by simpa using ha
    have q5 : decide (97 ≤ c) = false := by simp; omega
    go_enter Tryd.func36, Tryd.ntmps36
    go_wp2_with fail
    go_ret
    exact ⟨rfl, rfl⟩
theorem half_any (c : Int) (h0 : 0 ≤ c) (h1 : c < 256) (w : World) : Calls Tryd.prog 43 #[.int .u8 c] w fun e w' => e = .returned (.int .i64 (scHalf c)) ∧ w = w' := by
  have cI := Any.strings_IndexByte Tryd.laysIndexByte hexW c w
  have e1 := index_half' c h0 h1
  unfold hexW at cI e1
  go_enter Tryd.func43, Tryd.ntmps43
  go_wp2_with (go_at_call 54; refine cI.mono ?_; rintro e w2 ⟨rfl, rfl⟩)
  go_ret
  exact ⟨rfl, rfl⟩
end Go.Proofs.YtnppgidbfmbdgaaDoor
