/- crierref04.Right: the document's answer whether a text is right: the same as the decoder's. -/
import Derived.Test.YtldagaliddgdjaaGreatDoorChecked
import Derived.Test.YtldagaliddgdjaaGreatDoorMrg1
import Derived.Lib.ValidU
import Derived.Deep.LoopGhost
import Derived.Deep.QuietTactic
import Derived.BigQuiet
import Derived.Handy
namespace Go.Proofs.YtldagaliddgdjaaGreatDoor
open Go.RowKit Go.Lib

/-! ### right texts -/
def isTail (s : ByteArray) (j : Nat) : Bool := decide (j < s.size) && (decide (128 ≤ (s.get! j).toNat) && decide ((s.get! j).toNat ≤ 191))
theorem isTail_iff (s : ByteArray) (j : Nat) : isTail s j = true ↔ j < s.size ∧ 128 ≤ (s.get! j).toNat ∧ (s.get! j).toNat ≤ 191 := by
  unfold isTail; simp
/-- The document's step, as it is written. -/
def dStepN (b0 b1 b2 b3 : Nat) (t1 t2 t3 : Bool) : Nat × Nat :=
  if b0 < 128 then (1, b0)
  else if 194 ≤ b0 ∧ b0 ≤ 223 ∧ t1 = true then (2, (b0 - 192) * 64 + b1 - 128)
  else if 224 ≤ b0 ∧ b0 ≤ 239 ∧ t1 = true ∧ t2 = true then
    if (b0 - 224) * 4096 + (b1 - 128) * 64 + b2 - 128 < 2048 ∨ (55296 ≤ (b0 - 224) * 4096 + (b1 - 128) * 64 + b2 - 128 ∧ (b0 - 224) * 4096 + (b1 - 128) * 64 + b2 - 128 ≤ 57343) then (0, 0) else (3, (b0 - 224) * 4096 + (b1 - 128) * 64 + b2 - 128)
  else if 240 ≤ b0 ∧ b0 ≤ 244 ∧ t1 = true ∧ t2 = true ∧ t3 = true then
    if (b0 - 240) * 262144 + (b1 - 128) * 4096 + (b2 - 128) * 64 + b3 - 128 < 65536 ∨ 1114111 < (b0 - 240) * 262144 + (b1 - 128) * 4096 + (b2 - 128) * 64 + b3 - 128 then (0, 0) else (4, (b0 - 240) * 262144 + (b1 - 128) * 4096 + (b2 - 128) * 64 + b3 - 128)
  else (0, 0)
def dStep (s : ByteArray) (i : Nat) : Nat × Nat := dStepN (s.get! i).toNat (s.get! (i + 1)).toNat (s.get! (i + 2)).toNat (s.get! (i + 3)).toNat (isTail s (i + 1)) (isTail s (i + 2)) (isTail s (i + 3))
set_option maxHeartbeats 4000000 in
theorem dStepN_eq (n b0 b1 b2 b3 : Nat) (t1 t2 t3 : Bool) (_hn : 0 < n) (h0 : b0 < 256) (h1 : b1 < 256) (h2 : b2 < 256) (h3 : b3 < 256) (e1 : t1 = true ↔ 1 < n ∧ 128 ≤ b1 ∧ b1 ≤ 191) (e2 : t2 = true ↔ 2 < n ∧ 128 ≤ b2 ∧ b2 ≤ 191) (e3 : t3 = true ↔ 3 < n ∧ 128 ≤ b3 ∧ b3 ≤ 191) :
    dStepN b0 b1 b2 b3 t1 t2 t3 = if (decodeN n b0 b1 b2 b3).1 = 65533 ∧ (decodeN n b0 b1 b2 b3).2 = 1 then (0, 0) else ((decodeN n b0 b1 b2 b3).2, (decodeN n b0 b1 b2 b3).1) := by
  by_cases c0 : b0 < 128
  · have hd : decodeN n b0 b1 b2 b3 = (b0, 1) := by unfold decodeN; rw [if_pos c0]
    rw [hd]
    unfold dStepN
    rw [if_pos c0, if_neg (by simp only; omega)]
  by_cases c1 : 194 ≤ b0 ∧ b0 ≤ 223
  · by_cases ht : t1 = true
    · have g1 := e1.1 ht
      have hd : decodeN n b0 b1 b2 b3 = (b0 % 32 * 64 + b1 % 64, 2) := by unfold decodeN; rw [if_neg c0, if_pos (by omega), if_pos (by omega)]
      rw [hd]
      unfold dStepN
      rw [if_neg c0, if_pos ⟨c1.1, c1.2, ht⟩, if_neg (by simp only; omega)]
      simp only [Prod.mk.injEq, true_and]
      omega
    · have g1 : ¬ (1 < n ∧ 128 ≤ b1 ∧ b1 ≤ 191) := fun h => ht (e1.2 h)
      have hd : decodeN n b0 b1 b2 b3 = (65533, 1) := by unfold decodeN; rw [if_neg c0, if_neg (by omega), if_neg (by omega), if_neg (by omega)]
      rw [hd]
      unfold dStepN
      rw [if_neg c0, if_neg (fun h => ht h.2.2), if_neg (by omega), if_neg (by omega), if_pos ⟨rfl, rfl⟩]
  by_cases c2 : 224 ≤ b0 ∧ b0 ≤ 239
  · by_cases ht : t1 = true ∧ t2 = true
    · have g1 := e1.1 ht.1
      have g2 := e2.1 ht.2
      unfold dStepN
      rw [if_neg c0, if_neg (by omega), if_pos ⟨c2.1, c2.2, ht.1, ht.2⟩]
      by_cases hr : (b0 - 224) * 4096 + (b1 - 128) * 64 + b2 - 128 < 2048 ∨ (55296 ≤ (b0 - 224) * 4096 + (b1 - 128) * 64 + b2 - 128 ∧ (b0 - 224) * 4096 + (b1 - 128) * 64 + b2 - 128 ≤ 57343)
      · have hd : decodeN n b0 b1 b2 b3 = (65533, 1) := by unfold decodeN; rw [if_neg c0, if_neg (by omega), if_pos (by omega), if_neg (by omega)]
        rw [hd, if_pos hr, if_pos ⟨rfl, rfl⟩]
      · have hd : decodeN n b0 b1 b2 b3 = (b0 % 16 * 4096 + b1 % 64 * 64 + b2 % 64, 3) := by unfold decodeN; rw [if_neg c0, if_neg (by omega), if_pos (by omega), if_pos (by omega)]
        rw [hd, if_neg hr, if_neg (by simp only; omega)]
        simp only [Prod.mk.injEq, true_and]
        omega
    · have g1 : ¬ ((1 < n ∧ 128 ≤ b1 ∧ b1 ≤ 191) ∧ (2 < n ∧ 128 ≤ b2 ∧ b2 ≤ 191)) := fun h => ht ⟨e1.2 h.1, e2.2 h.2⟩
      have hd : decodeN n b0 b1 b2 b3 = (65533, 1) := by unfold decodeN; rw [if_neg c0, if_neg (by omega), if_neg (by omega), if_neg (by omega)]
      rw [hd]
      unfold dStepN
      rw [if_neg c0, if_neg (by omega), if_neg (fun h => ht ⟨h.2.2.1, h.2.2.2⟩), if_neg (by omega), if_pos ⟨rfl, rfl⟩]
  by_cases c3 : 240 ≤ b0 ∧ b0 ≤ 244
  · by_cases ht : t1 = true ∧ t2 = true ∧ t3 = true
    · have g1 := e1.1 ht.1
      have g2 := e2.1 ht.2.1
      have g3 := e3.1 ht.2.2
      unfold dStepN
      rw [if_neg c0, if_neg (by omega), if_neg (by omega), if_pos ⟨c3.1, c3.2, ht.1, ht.2.1, ht.2.2⟩]
      by_cases hr : (b0 - 240) * 262144 + (b1 - 128) * 4096 + (b2 - 128) * 64 + b3 - 128 < 65536 ∨ 1114111 < (b0 - 240) * 262144 + (b1 - 128) * 4096 + (b2 - 128) * 64 + b3 - 128
      · have hd : decodeN n b0 b1 b2 b3 = (65533, 1) := by unfold decodeN; rw [if_neg c0, if_neg (by omega), if_neg (by omega), if_pos (by omega), if_neg (by omega)]
        rw [hd, if_pos hr, if_pos ⟨rfl, rfl⟩]
      · have hd : decodeN n b0 b1 b2 b3 = (b0 % 8 * 262144 + b1 % 64 * 4096 + b2 % 64 * 64 + b3 % 64, 4) := by unfold decodeN; rw [if_neg c0, if_neg (by omega), if_neg (by omega), if_pos (by omega), if_pos (by omega)]
        rw [hd, if_neg hr, if_neg (by simp only; omega)]
        simp only [Prod.mk.injEq, true_and]
        omega
    · have g1 : ¬ ((1 < n ∧ 128 ≤ b1 ∧ b1 ≤ 191) ∧ (2 < n ∧ 128 ≤ b2 ∧ b2 ≤ 191) ∧ (3 < n ∧ 128 ≤ b3 ∧ b3 ≤ 191)) := fun h => ht ⟨e1.2 h.1, e2.2 h.2.1, e3.2 h.2.2⟩
      have hd : decodeN n b0 b1 b2 b3 = (65533, 1) := by unfold decodeN; rw [if_neg c0, if_neg (by omega), if_neg (by omega), if_neg (by omega)]
      rw [hd]
      unfold dStepN
      rw [if_neg c0, if_neg (by omega), if_neg (by omega), if_neg (fun h => ht ⟨h.2.2.1, h.2.2.2.1, h.2.2.2.2⟩), if_pos ⟨rfl, rfl⟩]
  · have hd : decodeN n b0 b1 b2 b3 = (65533, 1) := by
      unfold decodeN
      rw [if_neg c0]
      by_cases k : b0 / 32 = 6 ∧ (1 < n ∧ b1 / 64 = 2)
      · rw [if_pos k, if_neg (by omega)]
      · rw [if_neg k, if_neg (by omega)]
        by_cases k2 : b0 / 8 = 30 ∧ (1 < n ∧ b1 / 64 = 2) ∧ (2 < n ∧ b2 / 64 = 2) ∧ (3 < n ∧ b3 / 64 = 2)
        · rw [if_pos k2, if_neg (by omega)]
        · rw [if_neg k2]
    rw [hd]
    unfold dStepN
    rw [if_neg c0, if_neg (by omega), if_neg (by omega), if_neg (by omega), if_pos ⟨rfl, rfl⟩]
theorem dStep_eq (s : ByteArray) (i : Nat) (h : i < s.size) : dStep s i = if (Utf8.decode s i).1 = 65533 ∧ (Utf8.decode s i).2 = 1 then (0, 0) else ((Utf8.decode s i).2, (Utf8.decode s i).1) := by
  unfold dStep
  rw [decode_at]
  refine dStepN_eq _ _ _ _ _ _ _ _ (by omega) (UInt8.toNat_lt _) (UInt8.toNat_lt _) (UInt8.toNat_lt _) (UInt8.toNat_lt _) ?_ ?_ ?_
  · rw [isTail_iff]; omega
  · rw [isTail_iff]; omega
  · rw [isTail_iff]; omega
/-- All runes from a place on are right, and none is NUL. -/
def okRunes (s : ByteArray) : Nat → Nat → Bool
  | 0, _ => true
  | f + 1, i => if i < s.size then (if (dStep s i).1 = 0 ∨ (dStep s i).2 = 0 then false else okRunes s f (i + (dStep s i).1)) else true
theorem get_drop (s : ByteArray) (i k : Nat) : (⟨(s.data.toList.drop i).toArray⟩ : ByteArray).get! k = s.get! (i + k) := by
  show (s.data.toList.drop i).toArray[k]! = s.data[i + k]!
  by_cases h : i + k < s.data.size
  · rw [getElem!_pos s.data _ h, getElem!_pos _ k (by rw [List.size_toArray, List.length_drop, Array.length_toList]; omega)]
    simp
  · rw [getElem!_neg s.data _ h, getElem!_neg _ k (by rw [List.size_toArray, List.length_drop, Array.length_toList]; omega)]
theorem decodeL_drop (s : ByteArray) (i : Nat) : decodeL (s.data.toList.drop i) = Utf8.decode s i := by
  unfold decodeL
  rw [decode_at, decode_at, get_drop, get_drop, get_drop, get_drop]
  have : (⟨(s.data.toList.drop i).toArray⟩ : ByteArray).size - 0 = s.size - i := by
    show (s.data.toList.drop i).toArray.size - 0 = s.data.size - i
    simp
  rw [this]
  rfl
theorem dStep_fst (s : ByteArray) (i : Nat) (h : i < s.size) (hb : ¬ ((Utf8.decode s i).1 = 65533 ∧ (Utf8.decode s i).2 = 1)) : dStep s i = ((Utf8.decode s i).2, (Utf8.decode s i).1) := by
  rw [dStep_eq s i h, if_neg hb]
theorem okRunes_fuel (s : ByteArray) : ∀ (f g i : Nat), s.size ≤ i + f → s.size ≤ i + g → okRunes s f i = okRunes s g i
  | 0, g, i, h1, _ => by
    cases g with
    | zero => rfl
    | succ g => unfold okRunes; rw [if_neg (by omega)]
  | f + 1, 0, i, _, h2 => by unfold okRunes; rw [if_neg (by omega)]
  | f + 1, g + 1, i, h1, h2 => by
    unfold okRunes
    by_cases hi : i < s.size
    · rw [if_pos hi, if_pos hi]
      by_cases hz : (dStep s i).1 = 0 ∨ (dStep s i).2 = 0
      · rw [if_pos hz, if_pos hz]
      · rw [if_neg hz, if_neg hz, okRunes_fuel s f g _ (by omega) (by omega)]
    · rw [if_neg hi, if_neg hi]
theorem dStep_le (s : ByteArray) (i : Nat) (h : i < s.size) : i + (dStep s i).1 ≤ s.size ∧ (dStep s i).1 ≤ 4 ∧ (dStep s i).2 ≤ 1114111 := by
  have h1 := decodeL_le (s.data.toList.drop i) (fun e => by
        have := congrArg List.length e
        have h2 : i < s.data.size := h
        simp at this
        omega)
  have h3 := decodeL_rune (s.data.toList.drop i)
  rw [decodeL_drop] at h1 h3
  have h2 : s.data.size = s.size := rfl
  simp at h1
  have h4 : (dStep s i).1 ≤ 4 := by
    unfold dStep dStepN
    repeat' split
    all_goals simp
  rw [dStep_eq s i h] at h4 ⊢
  split
  · exact ⟨by simp; omega, by omega, by simp⟩
  · rename_i hb
    rw [if_neg hb] at h4
    exact ⟨by simp only; omega, h4, h3⟩

/-! ### walks -/
theorem get_is (s : ByteArray) (j : Nat) (h : j < s.size) : s.get! j = s[j]'h := by
  show s.data[j]! = s.data[j]'h
  exact getElem!_pos s.data j h
set_option maxRecDepth 100000 in
set_option maxHeartbeats 1000000 in
theorem tail_any (s : ByteArray) (j : Nat) (w : World) (_hj : j ≤ s.size + 4) (_hs : s.size ≤ 1000000) :
    Calls Tryz.prog 113 #[.string s, .int .i64 j] w fun e w' => e = .returned (.bool (isTail s j)) ∧ w = w' := by
  unfold isTail
  by_cases h : j < s.size
  · have h1 : (j : Int) < s.size := by omega
    have h0 : (0 : Int) ≤ j := by omega
    rw [get_is s j h]
    have hd : decide (j < s.size) = true := by simpa using h
    rw [hd, Bool.true_and]
    by_cases c1 : 128 ≤ (s[j]'h).toNat
    · have c1' : (128 : Int) ≤ ((s[j]'h).toNat : Int) := by omega
      have c1d : decide (128 ≤ (s[j]'h).toNat) = true := by simpa using c1
      rw [c1d, Bool.true_and]
      have hx : decide ((s[j]'h).toNat ≤ 191) = decide (((s[j]'h).toNat : Int) ≤ 191) := by simp only [decide_eq_decide]; omega
      rw [hx]
      go_enter Tryz.func113, Tryz.ntmps113
      go_wp2_with fail
      go_ret
      exact ⟨rfl, rfl⟩
    · have c1' : ¬ (128 : Int) ≤ ((s[j]'h).toNat : Int) := by omega
      have c1d : decide (128 ≤ (s[j]'h).toNat) = false := by simpa using c1
      rw [c1d, Bool.false_and]
      go_enter Tryz.func113, Tryz.ntmps113
      go_wp2_with fail
      go_ret
      exact ⟨rfl, rfl⟩
  · have h1 : ¬ (j : Int) < s.size := by omega
    go_enter Tryz.func113, Tryz.ntmps113
    go_wp2_with fail
    go_ret
    exact ⟨by simp, rfl⟩

set_option maxRecDepth 100000 in
set_option maxHeartbeats 4000000 in
theorem step_any (s : ByteArray) (i : Nat) (w : World) (hi : i < s.size) (hs : s.size ≤ 1000000) :
    Calls Tryz.prog 100 #[.string s, .int .i64 i] w fun e w' => e = .returned (.tuple #[.int .i64 (dStep s i).1, .int .i64 (dStep s i).2]) ∧ Own [] w w' := by
  have T1 := Lib.hid (fun W => tail_any s (i + 1) W (by omega) hs)
  have T2 := Lib.hid (fun W => tail_any s (i + 2) W (by omega) hs)
  have T3 := Lib.hid (fun W => tail_any s (i + 3) W (by omega) hs)
  have q1 : ((i + 1 : Nat) : Int) = (i : Int) + 1 := by omega
  have q2 : ((i + 2 : Nat) : Int) = (i : Int) + 2 := by omega
  have q3 : ((i + 3 : Nat) : Int) = (i : Int) + 3 := by omega
  rw [q1] at T1
  rw [q2] at T2
  rw [q3] at T3
  have w1 : IntKind.i64.wrap ((i : Int) + 1) = (i : Int) + 1 := IntWalk.i64_in _ (by omega)
  have w2 : IntKind.i64.wrap ((i : Int) + 2) = (i : Int) + 2 := IntWalk.i64_in _ (by omega)
  have w3 : IntKind.i64.wrap ((i : Int) + 3) = (i : Int) + 3 := IntWalk.i64_in _ (by omega)
  have t1s := isTail_iff s (i + 1)
  have t2s := isTail_iff s (i + 2)
  have t3s := isTail_iff s (i + 3)
  unfold dStep
  have h1 : (i : Int) < s.size := by omega
  have h0 : (0 : Int) ≤ i := by omega
  have b0 := UInt8.toNat_lt (s.get! i)
  have b1 := UInt8.toNat_lt (s.get! (i + 1))
  have b2 := UInt8.toNat_lt (s.get! (i + 2))
  have b3 := UInt8.toNat_lt (s.get! (i + 3))
  have e0 : ((s[i]'hi).toNat : Int) = ((s.get! i).toNat : Int) := by rw [get_is s i hi]
  have e1 : ∀ h, ((s[(i + 1)]'h).toNat : Int) = ((s.get! (i + 1)).toNat : Int) := fun h => by rw [get_is s (i + 1) h]
  have e2 : ∀ h, ((s[(i + 2)]'h).toNat : Int) = ((s.get! (i + 2)).toNat : Int) := fun h => by rw [get_is s (i + 2) h]
  have e3 : ∀ h, ((s[(i + 3)]'h).toNat : Int) = ((s.get! (i + 3)).toNat : Int) := fun h => by rw [get_is s (i + 3) h]
  generalize (s.get! i).toNat = n0 at *
  generalize (s.get! (i + 1)).toNat = n1 at *
  generalize (s.get! (i + 2)).toNat = n2 at *
  generalize (s.get! (i + 3)).toNat = n3 at *
  generalize isTail s (i + 1) = t1 at *
  generalize isTail s (i + 2) = t2 at *
  generalize isTail s (i + 3) = t3 at *
  replace t1s := Lib.hid t1s
  replace t2s := Lib.hid t2s
  replace t3s := Lib.hid t3s
  clear q1 q2 q3
  by_cases c0 : n0 < 128
  · have k0 : (n0 : Int) < 128 := by omega
    have hd : dStepN n0 n1 n2 n3 t1 t2 t3 = (1, n0) := by unfold dStepN; rw [if_pos c0]
    rw [hd]
    go_enter Tryz.func100, Tryz.ntmps100
    go_wp2_with fail
    go_ret2
    exact ⟨rfl, Own.refl _ _⟩
  · have m0 : ¬ (n0 : Int) < 128 := by omega
    have p1 : (0 : Int) ≤ (i : Int) + 1 := by omega
    have r1 : ((i : Int) + 1).toNat = i + 1 := by omega
    have p2 : (0 : Int) ≤ (i : Int) + 2 := by omega
    have r2 : ((i : Int) + 2).toNat = i + 2 := by omega
    have p3 : (0 : Int) ≤ (i : Int) + 3 := by omega
    have r3 : ((i : Int) + 3).toNat = i + 3 := by omega
    by_cases c1 : 194 ≤ n0 ∧ n0 ≤ 223
    · have k1 : (194 : Int) ≤ n0 := by omega
      have k2 : (n0 : Int) ≤ 223 := by omega
      have k3 : ¬ (224 : Int) ≤ n0 := by omega
      have k4 : ¬ (240 : Int) ≤ n0 := by omega
      cases t1 with
      | true =>
        obtain ⟨g1, g2, g3⟩ := t1s.out.1 rfl
        have g4 : (i : Int) + 1 < s.size := by omega
        have hd : dStepN n0 n1 n2 n3 true t2 t3 = (2, (n0 - 192) * 64 + n1 - 128) := by unfold dStepN; rw [if_neg c0, if_pos ⟨c1.1, c1.2, rfl⟩]
        rw [hd]
        have e4 : (((n0 - 192) * 64 + n1 - 128 : Nat) : Int) = ((n0 : Int) - 192) * 64 + n1 - 128 := by omega
        have v1 : IntKind.i64.wrap ((n0 : Int) - 192) = (n0 : Int) - 192 := IntWalk.i64_in _ (by omega)
        have v2 : IntKind.i64.wrap (((n0 : Int) - 192) * 64) = ((n0 : Int) - 192) * 64 := IntWalk.i64_in _ (by omega)
        have v3 : IntKind.i64.wrap (((n0 : Int) - 192) * 64 + n1) = ((n0 : Int) - 192) * 64 + n1 := IntWalk.i64_in _ (by omega)
        have v4 : IntKind.i64.wrap (((n0 : Int) - 192) * 64 + n1 - 128) = ((n0 : Int) - 192) * 64 + n1 - 128 := IntWalk.i64_in _ (by omega)
        have e1' := e1 g1
        rw [e4]
        clear e4
        go_enter Tryz.func100, Tryz.ntmps100
        go_wp2_with (first
                | (go_at_call 113; with_reducible refine (T1.out _).mono ?_; rintro e w' ⟨rfl, rfl⟩))
        go_quiet (fail)
        go_wp2_with fail
        go_ret2
        exact ⟨rfl, (Own.refl _ _).drewN _⟩
      | false =>
        have hd : dStepN n0 n1 n2 n3 false t2 t3 = (0, 0) := by unfold dStepN; rw [if_neg c0, if_neg (fun h => by cases h.2.2), if_neg (by omega), if_neg (by omega)]
        rw [hd]
        go_enter Tryz.func100, Tryz.ntmps100
        go_wp2_with (first
                | (go_at_call 113; with_reducible refine (T1.out _).mono ?_; rintro e w' ⟨rfl, rfl⟩))
        go_ret2
        exact ⟨rfl, Own.refl _ _⟩
    · by_cases c2 : 224 ≤ n0 ∧ n0 ≤ 239
      · have k1 : (194 : Int) ≤ n0 := by omega
        have k2 : ¬ (n0 : Int) ≤ 223 := by omega
        have k3 : (224 : Int) ≤ n0 := by omega
        have k5 : (n0 : Int) ≤ 239 := by omega
        have k4 : ¬ (240 : Int) ≤ n0 := by omega
        cases t1 with
        | false =>
          have hd : dStepN n0 n1 n2 n3 false t2 t3 = (0, 0) := by unfold dStepN; rw [if_neg c0, if_neg (by omega), if_neg (fun h => by cases h.2.2.1), if_neg (by omega)]
          rw [hd]
          go_enter Tryz.func100, Tryz.ntmps100
          go_wp2_with (first
                  | (go_at_call 113; with_reducible refine (T1.out _).mono ?_; rintro e w' ⟨rfl, rfl⟩))
          go_ret2
          exact ⟨rfl, Own.refl _ _⟩
        | true =>
          cases t2 with
          | false =>
            have hd : dStepN n0 n1 n2 n3 true false t3 = (0, 0) := by unfold dStepN; rw [if_neg c0, if_neg (by omega), if_neg (fun h => by cases h.2.2.2), if_neg (by omega)]
            rw [hd]
            go_enter Tryz.func100, Tryz.ntmps100
            go_wp2_with (first
                    | (go_at_call 113; with_reducible refine (T1.out _).mono ?_; rintro e w' ⟨rfl, rfl⟩)
                    | (go_at_call 113; with_reducible refine (T2.out _).mono ?_; rintro e w' ⟨rfl, rfl⟩))
            go_ret2
            exact ⟨rfl, Own.refl _ _⟩
          | true =>
            obtain ⟨g1, g2, g3⟩ := t1s.out.1 rfl
            obtain ⟨g5, g6, g7⟩ := t2s.out.1 rfl
            have g4 : (i : Int) + 1 < s.size := by omega
            have g8 : (i : Int) + 2 < s.size := by omega
            have hd : dStepN n0 n1 n2 n3 true true t3 = if (n0 - 224) * 4096 + (n1 - 128) * 64 + n2 - 128 < 2048 ∨ (55296 ≤ (n0 - 224) * 4096 + (n1 - 128) * 64 + n2 - 128 ∧ (n0 - 224) * 4096 + (n1 - 128) * 64 + n2 - 128 ≤ 57343) then (0, 0) else (3, (n0 - 224) * 4096 + (n1 - 128) * 64 + n2 - 128) := by
              unfold dStepN; rw [if_neg c0, if_neg (by omega), if_pos ⟨c2.1, c2.2, rfl, rfl⟩]
            rw [hd]
            have v1 : IntKind.i64.wrap ((n0 : Int) - 224) = (n0 : Int) - 224 := IntWalk.i64_in _ (by omega)
            have v2 : IntKind.i64.wrap (((n0 : Int) - 224) * 4096) = ((n0 : Int) - 224) * 4096 := IntWalk.i64_in _ (by omega)
            have v3 : IntKind.i64.wrap ((n1 : Int) - 128) = (n1 : Int) - 128 := IntWalk.i64_in _ (by omega)
            have v4 : IntKind.i64.wrap (((n1 : Int) - 128) * 64) = ((n1 : Int) - 128) * 64 := IntWalk.i64_in _ (by omega)
            obtain ⟨N, hN⟩ : ∃ N, (n0 - 224) * 4096 + (n1 - 128) * 64 + n2 - 128 = N := ⟨_, rfl⟩
            have v5 : IntKind.i64.wrap (((n0 : Int) - 224) * 4096 + ((n1 : Int) - 128) * 64) = ((n0 : Int) - 224) * 4096 + ((n1 : Int) - 128) * 64 := IntWalk.i64_in _ (by omega)
            have v6 : IntKind.i64.wrap (((n0 : Int) - 224) * 4096 + ((n1 : Int) - 128) * 64 + n2) = ((n0 : Int) - 224) * 4096 + ((n1 : Int) - 128) * 64 + n2 := IntWalk.i64_in _ (by omega)
            have v7 : IntKind.i64.wrap (((n0 : Int) - 224) * 4096 + ((n1 : Int) - 128) * 64 + n2 - 128) = (N : Int) := by rw [IntWalk.i64_in _ (by omega)]; omega
            rw [hN]
            have e1' := e1 g1
            have e2' := e2 g5
            replace hN := Lib.hid hN
            clear hd
            by_cases y1 : N < 2048
            · have y2 : (N : Int) < 2048 := by omega
              rw [if_pos (.inl y1)]
              go_enter Tryz.func100, Tryz.ntmps100
              go_wp2_with (first
                      | (go_at_call 113; with_reducible refine (T1.out _).mono ?_; rintro e w' ⟨rfl, rfl⟩)
                      | (go_at_call 113; with_reducible refine (T2.out _).mono ?_; rintro e w' ⟨rfl, rfl⟩))
              go_quiet (fail)
              go_wp2_with fail
              go_ret2
              exact ⟨rfl, (Own.refl _ _).drewN _⟩
            · have y2 : ¬ (N : Int) < 2048 := by omega
              by_cases y3 : 55296 ≤ N ∧ N ≤ 57343
              · have y4 : (55296 : Int) ≤ N := by omega
                have y5 : (N : Int) ≤ 57343 := by omega
                rw [if_pos (.inr y3)]
                go_enter Tryz.func100, Tryz.ntmps100
                go_wp2_with (first
                        | (go_at_call 113; with_reducible refine (T1.out _).mono ?_; rintro e w' ⟨rfl, rfl⟩)
                        | (go_at_call 113; with_reducible refine (T2.out _).mono ?_; rintro e w' ⟨rfl, rfl⟩))
                go_quiet (fail)
                go_wp2_with fail
                go_ret2
                exact ⟨rfl, (Own.refl _ _).drewN _⟩
              · rw [if_neg (by omega)]
                by_cases y4 : 55296 ≤ N
                · have y5 : (55296 : Int) ≤ N := by omega
                  have y6 : ¬ (N : Int) ≤ 57343 := by omega
                  go_enter Tryz.func100, Tryz.ntmps100
                  go_wp2_with (first
                          | (go_at_call 113; with_reducible refine (T1.out _).mono ?_; rintro e w' ⟨rfl, rfl⟩)
                          | (go_at_call 113; with_reducible refine (T2.out _).mono ?_; rintro e w' ⟨rfl, rfl⟩))
                  go_quiet (fail)
                  go_wp2_with fail
                  go_ret2
                  exact ⟨rfl, (Own.refl _ _).drewN _⟩
                · have y5 : decide ((55296 : Int) ≤ N) = false := by simp only [decide_eq_false_iff_not]; omega
                  have y7 : decide ((N : Int) < 2048) = false := by simp only [decide_eq_false_iff_not]; exact y2
                  clear y1 y3 y4 y2
                  go_enter Tryz.func100, Tryz.ntmps100
                  go_wp2_with (first
                          | (go_at_call 113; with_reducible refine (T1.out _).mono ?_; rintro e w' ⟨rfl, rfl⟩)
                          | (go_at_call 113; with_reducible refine (T2.out _).mono ?_; rintro e w' ⟨rfl, rfl⟩))
                  go_quiet (fail)
                  go_wp2_with fail
                  go_ret2
                  exact ⟨rfl, (Own.refl _ _).drewN _⟩
      · by_cases c3 : 240 ≤ n0 ∧ n0 ≤ 244
        · have k1 : (194 : Int) ≤ n0 := by omega
          have k2 : ¬ (n0 : Int) ≤ 223 := by omega
          have k3 : (224 : Int) ≤ n0 := by omega
          have k5 : ¬ (n0 : Int) ≤ 239 := by omega
          have k4 : (240 : Int) ≤ n0 := by omega
          have k6 : (n0 : Int) ≤ 244 := by omega
          cases t1 with
          | false =>
            have hd : dStepN n0 n1 n2 n3 false t2 t3 = (0, 0) := by unfold dStepN; rw [if_neg c0, if_neg (by omega), if_neg (by omega), if_neg (fun h => by cases h.2.2.1)]
            rw [hd]
            go_enter Tryz.func100, Tryz.ntmps100
            go_wp2_with (first
                    | (go_at_call 113; with_reducible refine (T1.out _).mono ?_; rintro e w' ⟨rfl, rfl⟩))
            go_ret2
            exact ⟨rfl, Own.refl _ _⟩
          | true =>
            cases t2 with
            | false =>
              have hd : dStepN n0 n1 n2 n3 true false t3 = (0, 0) := by unfold dStepN; rw [if_neg c0, if_neg (by omega), if_neg (by omega), if_neg (fun h => by cases h.2.2.2.1)]
              rw [hd]
              go_enter Tryz.func100, Tryz.ntmps100
              go_wp2_with (first
                      | (go_at_call 113; with_reducible refine (T1.out _).mono ?_; rintro e w' ⟨rfl, rfl⟩)
                      | (go_at_call 113; with_reducible refine (T2.out _).mono ?_; rintro e w' ⟨rfl, rfl⟩))
              go_ret2
              exact ⟨rfl, Own.refl _ _⟩
            | true =>
              cases t3 with
              | false =>
                have hd : dStepN n0 n1 n2 n3 true true false = (0, 0) := by unfold dStepN; rw [if_neg c0, if_neg (by omega), if_neg (by omega), if_neg (fun h => by cases h.2.2.2.2)]
                rw [hd]
                go_enter Tryz.func100, Tryz.ntmps100
                go_wp2_with (first
                        | (go_at_call 113; with_reducible refine (T1.out _).mono ?_; rintro e w' ⟨rfl, rfl⟩)
                        | (go_at_call 113; with_reducible refine (T2.out _).mono ?_; rintro e w' ⟨rfl, rfl⟩)
                        | (go_at_call 113; with_reducible refine (T3.out _).mono ?_; rintro e w' ⟨rfl, rfl⟩))
                go_ret2
                exact ⟨rfl, Own.refl _ _⟩
              | true =>
                obtain ⟨g1, g2, g3⟩ := t1s.out.1 rfl
                obtain ⟨g5, g6, g7⟩ := t2s.out.1 rfl
                obtain ⟨g9, ga, gb⟩ := t3s.out.1 rfl
                have g4 : (i : Int) + 1 < s.size := by omega
                have g8 : (i : Int) + 2 < s.size := by omega
                have gc : (i : Int) + 3 < s.size := by omega
                have hd : dStepN n0 n1 n2 n3 true true true = if (n0 - 240) * 262144 + (n1 - 128) * 4096 + (n2 - 128) * 64 + n3 - 128 < 65536 ∨ 1114111 < (n0 - 240) * 262144 + (n1 - 128) * 4096 + (n2 - 128) * 64 + n3 - 128 then (0, 0) else (4, (n0 - 240) * 262144 + (n1 - 128) * 4096 + (n2 - 128) * 64 + n3 - 128) := by
                  unfold dStepN; rw [if_neg c0, if_neg (by omega), if_neg (by omega), if_pos ⟨c3.1, c3.2, rfl, rfl, rfl⟩]
                rw [hd]
                have v1 : IntKind.i64.wrap ((n0 : Int) - 240) = (n0 : Int) - 240 := IntWalk.i64_in _ (by omega)
                have v2 : IntKind.i64.wrap (((n0 : Int) - 240) * 262144) = ((n0 : Int) - 240) * 262144 := IntWalk.i64_in _ (by omega)
                have v3 : IntKind.i64.wrap ((n1 : Int) - 128) = (n1 : Int) - 128 := IntWalk.i64_in _ (by omega)
                have v4 : IntKind.i64.wrap (((n1 : Int) - 128) * 4096) = ((n1 : Int) - 128) * 4096 := IntWalk.i64_in _ (by omega)
                obtain ⟨N, hN⟩ : ∃ N, (n0 - 240) * 262144 + (n1 - 128) * 4096 + (n2 - 128) * 64 + n3 - 128 = N := ⟨_, rfl⟩
                have v5 : IntKind.i64.wrap (((n0 : Int) - 240) * 262144 + ((n1 : Int) - 128) * 4096) = ((n0 : Int) - 240) * 262144 + ((n1 : Int) - 128) * 4096 := IntWalk.i64_in _ (by omega)
                have v6 : IntKind.i64.wrap ((n2 : Int) - 128) = (n2 : Int) - 128 := IntWalk.i64_in _ (by omega)
                have v7 : IntKind.i64.wrap (((n2 : Int) - 128) * 64) = ((n2 : Int) - 128) * 64 := IntWalk.i64_in _ (by omega)
                have v8 : IntKind.i64.wrap (((n0 : Int) - 240) * 262144 + ((n1 : Int) - 128) * 4096 + ((n2 : Int) - 128) * 64) = ((n0 : Int) - 240) * 262144 + ((n1 : Int) - 128) * 4096 + ((n2 : Int) - 128) * 64 := IntWalk.i64_in _ (by omega)
                have v9 : IntKind.i64.wrap (((n0 : Int) - 240) * 262144 + ((n1 : Int) - 128) * 4096 + ((n2 : Int) - 128) * 64 + n3) = ((n0 : Int) - 240) * 262144 + ((n1 : Int) - 128) * 4096 + ((n2 : Int) - 128) * 64 + n3 := IntWalk.i64_in _ (by omega)
                have va : IntKind.i64.wrap (((n0 : Int) - 240) * 262144 + ((n1 : Int) - 128) * 4096 + ((n2 : Int) - 128) * 64 + n3 - 128) = (N : Int) := by rw [IntWalk.i64_in _ (by omega)]; omega
                rw [hN]
                have e1' := e1 g1
                have e2' := e2 g5
                have e3' := e3 g9
                replace hN := Lib.hid hN
                clear hd
                by_cases y1 : N < 65536
                · have y2 : (N : Int) < 65536 := by omega
                  rw [if_pos (.inl y1)]
                  go_enter Tryz.func100, Tryz.ntmps100
                  go_wp2_with (first
                          | (go_at_call 113; with_reducible refine (T1.out _).mono ?_; rintro e w' ⟨rfl, rfl⟩)
                          | (go_at_call 113; with_reducible refine (T2.out _).mono ?_; rintro e w' ⟨rfl, rfl⟩)
                          | (go_at_call 113; with_reducible refine (T3.out _).mono ?_; rintro e w' ⟨rfl, rfl⟩))
                  go_quiet (fail)
                  go_wp2_with fail
                  go_ret2
                  exact ⟨rfl, (Own.refl _ _).drewN _⟩
                · have y2 : ¬ (N : Int) < 65536 := by omega
                  by_cases y3 : 1114111 < N
                  · have y4 : (1114111 : Int) < N := by omega
                    rw [if_pos (.inr y3)]
                    go_enter Tryz.func100, Tryz.ntmps100
                    go_wp2_with (first
                            | (go_at_call 113; with_reducible refine (T1.out _).mono ?_; rintro e w' ⟨rfl, rfl⟩)
                            | (go_at_call 113; with_reducible refine (T2.out _).mono ?_; rintro e w' ⟨rfl, rfl⟩)
                            | (go_at_call 113; with_reducible refine (T3.out _).mono ?_; rintro e w' ⟨rfl, rfl⟩))
                    go_quiet (fail)
                    go_wp2_with fail
                    go_ret2
                    exact ⟨rfl, (Own.refl _ _).drewN _⟩
                  · have y4 : ¬ (1114111 : Int) < N := by omega
                    rw [if_neg (by omega)]
                    go_enter Tryz.func100, Tryz.ntmps100
                    go_wp2_with (first
                            | (go_at_call 113; with_reducible refine (T1.out _).mono ?_; rintro e w' ⟨rfl, rfl⟩)
                            | (go_at_call 113; with_reducible refine (T2.out _).mono ?_; rintro e w' ⟨rfl, rfl⟩)
                            | (go_at_call 113; with_reducible refine (T3.out _).mono ?_; rintro e w' ⟨rfl, rfl⟩))
                    go_quiet (fail)
                    go_wp2_with fail
                    go_ret2
                    exact ⟨rfl, (Own.refl _ _).drewN _⟩
        · have hd : dStepN n0 n1 n2 n3 t1 t2 t3 = (0, 0) := by unfold dStepN; rw [if_neg c0, if_neg (by omega), if_neg (by omega), if_neg (by omega)]
          rw [hd]
          by_cases d1 : 194 ≤ n0
          · have k1 : (194 : Int) ≤ n0 := by omega
            have k2 : ¬ (n0 : Int) ≤ 223 := by omega
            have k3 : (224 : Int) ≤ n0 := by omega
            have k5 : ¬ (n0 : Int) ≤ 239 := by omega
            have k4 : (240 : Int) ≤ n0 := by omega
            have k6 : ¬ (n0 : Int) ≤ 244 := by omega
            go_enter Tryz.func100, Tryz.ntmps100
            go_wp2_with fail
            go_ret2
            exact ⟨rfl, Own.refl _ _⟩
          · have k1 : ¬ (194 : Int) ≤ n0 := by omega
            have k3 : ¬ (224 : Int) ≤ n0 := by omega
            have k4 : ¬ (240 : Int) ≤ n0 := by omega
            go_enter Tryz.func100, Tryz.ntmps100
            go_wp2_with fail
            go_ret2
            exact ⟨rfl, Own.refl _ _⟩

def docRight (s : ByteArray) : Bool := !(decide (65535 < s.size)) && okRunes s s.size 0
set_option maxRecDepth 100000 in
set_option maxHeartbeats 4000000 in
theorem docRight_any (s : ByteArray) (w : World) (hs : s.size ≤ 1000000) :
    Calls Tryz.prog 80 #[.string s] w fun e w' => e = .returned (.bool (docRight s)) ∧ Own [] w w' := by
  unfold docRight
  by_cases hb : 65535 < s.size
  · have hb1 : (65535 : Int) < s.size := by omega
    go_enter Tryz.func80, Tryz.ntmps80
    go_wp2_with fail
    go_ret
    exact ⟨by simp [hb], Own.refl _ _⟩
  · have hb1 : ¬ (65535 : Int) < s.size := by omega
    have hd : decide (65535 < s.size) = false := by simpa using hb
    rw [hd, Bool.not_false, Bool.true_and]
    generalize hans : okRunes s s.size 0 = ans
    replace hans := Lib.hid hans
    have S := fun i hi W => step_any s i W hi hs
    have hle := dStep_le s
    have hst : ∀ i, i < s.size → okRunes s s.size i = if (dStep s i).1 = 0 ∨ (dStep s i).2 = 0 then false else okRunes s s.size (i + (dStep s i).1) := fun i hi => by
      rw [okRunes_fuel s s.size (s.size + 1) i (by omega) (by omega)]
      conv => lhs; unfold okRunes
      rw [if_pos hi]
    have hen : okRunes s s.size s.size = true := by
      cases hz : s.size with
      | zero => rfl
      | succ n => unfold okRunes; rw [if_neg (by omega)]
    replace hen := Lib.hid hen
    replace hst := Lib.hid hst
    replace hle := Lib.hid hle
    replace S := Lib.hid S
    clear hd hb
    go_enter Tryz.func80, Tryz.ntmps80
    go_wp2_with fail
    go_loopg [3] (s.size + 1) (fun g s3 wr => ∃ i : Nat, s3 = .int .i64 i ∧ g = s.size + 1 - i ∧ i ≤ s.size ∧ Own [] w wr ∧ Aside (okRunes s s.size i = ans))
    case atStart => exact ⟨0, rfl, rfl, Nat.zero_le _, Own.refl _ _, hans.out⟩
    case round =>
      obtain ⟨i, rfl, hg, hi, hO, hA⟩ := hrel
      replace hA := hA.out
      by_cases hlt : i < s.size
      · rw [hst.out i hlt] at hA
        have hl := hle.out i hlt
        have Si := S.out i hlt
        generalize dStep s i = d at *
        obtain ⟨n, c⟩ := d
        simp only at hA hl Si
        have h1 : (i : Int) < s.size := by omega
        replace hO := Lib.hid hO
        replace hg := Lib.hid hg
        by_cases hn : n = 0
        · subst hn
          rw [if_pos (.inl rfl)] at hA
          subst hA
          replace Si := Lib.hid Si
          go_wp2_with (go_at_call 100; refine (Si.out _).mono ?_; rintro e w2 ⟨rfl, hO2⟩; replace hO2 := Lib.hid hO2)
          go_ret
          exact ⟨rfl, hO.out.trans hO2.out⟩
        · have hnb : ((n : Int) == 0) = false := by simp; omega
          by_cases hc : c = 0
          · subst hc
            rw [if_pos (.inr rfl)] at hA
            subst hA
            replace Si := Lib.hid Si
            go_wp2_with (go_at_call 100; refine (Si.out _).mono ?_; rintro e w2 ⟨rfl, hO2⟩; replace hO2 := Lib.hid hO2)
            go_ret
            exact ⟨rfl, hO.out.trans hO2.out⟩
          · have hcb : ((c : Int) == 0) = false := by simp; omega
            rw [if_neg (by omega)] at hA
            have hw1 : IntKind.i64.wrap ((i : Int) + n) = (i : Int) + n := IntWalk.i64_in _ (by omega)
            replace Si := Lib.hid Si
            replace hA := Lib.hid hA
            go_wp2_with (go_at_call 100; refine (Si.out _).mono ?_; rintro e w2 ⟨rfl, hO2⟩; replace hO2 := Lib.hid hO2)
            go_roundg (s.size + 1 - (i + n))
            case measure => have := hg.out; omega
            case rel => exact ⟨i + n, by simp, rfl, by omega, hO.out.trans hO2.out, hA.out⟩
      · obtain rfl : i = s.size := by omega
        have h1 : ¬ ((s.size : Nat) : Int) < s.size := by omega
        rw [hen.out] at hA
        subst hA
        replace hO := Lib.hid hO
        go_wp2_with fail
        go_ret
        exact ⟨rfl, hO.out⟩
end Go.Proofs.YtldagaliddgdjaaGreatDoor
