/- RateRoom: as many keys as there may be are known; another one is never granted. -/
import Derived.Test.YtigkpcdlfjlehaaRateTop
import Derived.Test.YtigkpcdlfjlehaaFlat
namespace Go.Proofs.Ytigkpcdlfjlehaa
open Go.RowKit

def kName (k : Nat) : ByteArray := strOfNums [107, 48 + (k : Int)]
def rl (now : Int) : Nat → RTab
  | 0 => []
  | k + 1 => (kName k, now) :: rl now k
theorem rl_len (now : Int) : ∀ k, (rl now k).length = k
  | 0 => rfl
  | k + 1 => by simp [rl, rl_len now k]
theorem rl_mem (now : Int) : ∀ k, ∀ p ∈ rl now k, ∃ i, i < k ∧ p = (kName i, now)
  | 0, p, h => by simp [rl] at h
  | k + 1, p, h => by
    rcases List.mem_cons.1 h with rfl | h
    · exact ⟨k, by omega, rfl⟩
    · obtain ⟨i, hi, e⟩ := rl_mem now k p h
      exact ⟨i, by omega, e⟩
theorem kName_inj : ∀ i, i < 8 → ∀ j, j < 8 → i ≠ j → kName i ≠ kName j := by decide +kernel
theorem rl_get (now : Int) (k : Nat) (h : k < 8) : aGet (rl now k) (kName k) = none := by
  rw [aGet_none_iff]
  intro p hp
  obtain ⟨i, hi, rfl⟩ := rl_mem now k p hp
  exact kName_inj i (by omega) k h (by omega)
theorem rl_may (now : Int) (hn : 0 ≤ now ∧ now ≤ 1073741824) (k : Nat) (h : k < 8) : rMay (rl now k) 0 (kName k) now = true := by
  unfold rMay
  rw [rl_get now k h, rl_len]
  simp [timedB, hn.1, hn.2, h]
theorem rl_ask (now : Int) (hn : 0 ≤ now ∧ now ≤ 1073741824) (k : Nat) (h : k < 8) : rAsk (rl now k) 0 (kName k) now = rl now (k + 1) := by
  unfold rAsk
  rw [rl_may now hn k h, if_pos rfl, aDel_none (rl_get now k h)]
  rfl
theorem rl_x (now : Int) (extra : ByteArray) : aGet (rl now 8) (⟨#[120]⟩ ++ extra) = none := by
  rw [aGet_none_iff]
  intro p hp e
  obtain ⟨i, hi, rfl⟩ := rl_mem now 8 p hp
  have h1 := congrArg (fun b : ByteArray => b.data.toList.head?) e
  simp [kName, strOfNums_data, ByteArray.data_append] at h1
theorem rl_mayx (now : Int) (extra : ByteArray) : rMay (rl now 8) 0 (⟨#[120]⟩ ++ extra) now = false := by
  unfold rMay
  rw [rl_x, rl_len]
  simp
theorem rl_askx (now : Int) (extra : ByteArray) : rAsk (rl now 8) 0 (⟨#[120]⟩ ++ extra) now = rl now 8 := by
  unfold rAsk
  rw [rl_mayx]; rfl
theorem rl_get0 (now : Int) : aGet (rl now 8) (kName 0) = some now := by
  have h : ∀ k, k < 8 → aGet (rl now (k + 1)) (kName 0) = some now := by
    intro k
    induction k with
    | zero => intro _; simp [rl, aGet]
    | succ k ih =>
      intro hk
      have := ih (by omega)
      unfold aGet at this ⊢
      rw [rl, List.find?_cons_of_neg (by simpa using kName_inj (k + 1) (by omega) 0 (by omega) (by omega))]
      exact this
  exact h 7 (by omega)
theorem rl_may0 (now : Int) (hn : 0 ≤ now ∧ now ≤ 1073741824) : rMay (rl now 8) 0 (kName 0) now = true := by
  unfold rMay
  rw [rl_get0]
  simp [timedB, hn.1, hn.2]
theorem rl_len0 (now : Int) (hn : 0 ≤ now ∧ now ≤ 1073741824) : (rAsk (rl now 8) 0 (kName 0) now).length = 8 := by
  unfold rAsk
  rw [rl_may0 now hn, if_pos rfl]
  have h1 := aDel_len_lt (rl_get0 now)
  have hk0 : (kName 0) = (kName 0) := rfl
  have h2 : (aDel (rl now 8) (kName 0)).length = 7 := by
    have : ∀ k, k < 8 → (aDel (rl now (k + 1)) (kName 0)).length = k := by
      intro k
      induction k with
      | zero => intro _; simp [rl, aDel]
      | succ k ih =>
        intro hk
        have := ih (by omega)
        have hne : (!(kName (k + 1) == kName 0)) = true := by simpa using kName_inj (k + 1) (by omega) 0 (by omega) (by omega)
        unfold aDel at this ⊢
        rw [rl, List.filter_cons, if_pos hne]
        simp only [List.length_cons]
        omega
    exact this 7 (by omega)
  simp [h2]

set_option maxRecDepth 100000 in
set_option maxHeartbeats 4000000 in
theorem room_walk (extra : ByteArray) (now : Int) (w : World) (hs : extra.size ≤ 140737488351232) (hn : (Lit.int .u16 now).wf = true) :
    Calls Try.prog 4 #[.string extra, .int .u16 now] w fun e w' => e = .returned (.bool true) ∧ Below w.heap.size w w' := by
  obtain ⟨hn0, hn1⟩ := bounds_u16 hn
  clear hn
  have hnn : 0 ≤ now ∧ now ≤ 1073741824 := by omega
  replace hnn := Lib.hid hnn
  have hcv := fun w x y => conv2 (P := Try.prog) Try.underlying22 Try.underlying5 Try.underlying9 w x y 5
  go_enter Try.func4, Try.ntmps4
  go_wp2_with fail
  refine (new_yes 0 _ (by omega) (by omega)).mono ?_
  rintro e w1 ⟨rb, B1, rfl, hR1, hO1, hB1⟩
  replace hR1 := Lib.hid hR1
  go_wp2_with fail
  go_loopg [7] 8 (fun g s9 wr => ∃ (k : Nat) (B : List Nat), k ≤ 8 ∧ g = 8 - k ∧ s9 = .int .i64 k ∧ Rate wr rb 0 B (rl now k) ∧ (∀ x ∈ B, w.heap.size ≤ x) ∧ Below w.heap.size w wr)
  case atStart => exact ⟨0, B1, by omega, by omega, rfl, hR1.out, hB1, hO1.below (Nat.le_refl _) (by simp)⟩
  case round =>
    obtain ⟨k, B, hk, rfl, rfl, hR, hBl, hB⟩ := hrel
    have hBs := hB.size
    clear hR1
    by_cases hlt : k < 8
    · have hR2 := hR.nil ((Own.refl [] wr).alloc (.cells #[.int .u8 107, .int .u8 (48 + (k : Int))] 5))
      have hB2 := hB.alloc hB.size (.cells #[.int .u8 107, .int .u8 (48 + (k : Int))] 5)
      have hBs2 := hB2.size
      have T := ask_eq (rl_may now hnn.out k hlt) (rl_ask now hnn.out k hlt) _ hR2
      simp only [kName] at T
      have hBB := Lib.hid (fun (B2 : List Nat) (h : ∀ x ∈ B2, x ∈ B ∨ (wr.alloc (.cells #[.int .u8 107, .int .u8 (48 + (k : Int))] 5)).heap.size ≤ x) => (fun x hx => by rcases h x hx with h | h; exact hBl x h; omega : ∀ x ∈ B2, w.heap.size ≤ x))
      replace T := Lib.hid T
      clear hR hR2 hB
      go_wp2_with fail
      refine T.out.mono ?_
      rintro e w2 ⟨rfl, B2, hR2, hO2, hB3⟩
      replace hR2 := Lib.hid hR2
      go_wp2_with fail
      go_roundg (8 - (k + 1))
      case measure => omega
      case rel => exact ⟨k + 1, B2, by omega, rfl, by go_num, hR2.out, hBB.out B2 hB3, hB2.trans (hO2.below hBs2 hBl)⟩
    · obtain rfl : k = 8 := by omega
      have hB0 := hBl
      have T1 := last_any rb 0 B (rl now 8) (⟨#[120]⟩ ++ extra) wr hR
      rw [rl_x] at T1
      simp only [Option.getD_none, Option.isSome_none] at T1
      have T2 := fun w2 (h : Rate w2 rb 0 B (rl now 8)) => may_any rb 0 B (rl now 8) (⟨#[120]⟩ ++ extra) now w2 h
      rw [rl_mayx] at T2
      have T3 := fun w2 (h : Rate w2 rb 0 B (rl now 8)) => ask_eq (rl_mayx now extra) (rl_askx now extra) w2 h
      have T4 := fun w2 B2 (h : Rate w2 rb 0 B2 (rl now 8)) => ask_eq (rl_may0 now hnn.out) rfl w2 h
      have e0 : kName 0 = ⟨#[107, 48]⟩ := by decide +kernel
      have hl0 := Lib.hid (rl_len0 now hnn.out)
      rw [e0] at T4 hl0
      have hAw := Lib.hid (fun w => awake_any w)
      replace T1 := Lib.hid T1
      replace T2 := Lib.hid T2
      replace T3 := Lib.hid T3
      replace T4 := Lib.hid T4
      clear hcv e0
      go_wp2_with fail
      refine T1.out.mono ?_
      rintro e w2 ⟨rfl, hO2⟩
      have hR2 := Lib.hid (hR.nil hO2)
      have hB2 := hB.trans (hO2.below hBs (by simp))
      have hS2 := hB2.size
      clear hR hB hO2
      go_wp2_with fail
      refine (T2.out _ hR2.out).mono ?_
      rintro e w3 ⟨rfl, hO3⟩
      have hR3 := Lib.hid (hR2.out.nil hO3)
      have hB3 := hB2.trans (hO3.below hS2 (by simp))
      have hS3 := hB3.size
      clear hR2 hB2 hO3
      go_wp2_with fail
      refine (T3.out _ hR3.out).mono ?_
      rintro e w4 ⟨rfl, B4, hR4, hO4, hB4⟩
      replace hR4 := Lib.hid hR4
      have hB4' : ∀ x ∈ B4, w.heap.size ≤ x := fun x hx => by rcases hB4 x hx with h | h; exact hB0 x h; omega
      have hB5 := hB3.trans (hO4.below hS3 hB0)
      have hS5 := hB5.size
      clear hR3 hB3 hO4
      go_wp2_with fail
      refine (T4.out _ _ hR4.out).mono ?_
      rintro e w6 ⟨rfl, B6, hR6, hO6, hB6⟩
      have L := len_any _ _ _ _ _ hR6
      rw [hl0.out] at L
      replace L := Lib.hid L
      have hB7 := hB5.trans (hO6.below hS5 hB4')
      have hS7 := hB7.size
      clear hR4 hR6 hB5 hO6
      go_wp2_with fail
      refine L.out.mono ?_
      rintro e w8 ⟨rfl, rfl⟩
      go_wp2_with fail
      refine (hAw.out _).mono ?_
      rintro e w9 ⟨rfl, hO9⟩
      go_wp2_with fail
      go_ret
      exact ⟨rfl, hB7.trans (hO9.below hS7 (by simp))⟩
end Go.Proofs.Ytigkpcdlfjlehaa
