/- The library's sort at uint64: nextPowerOfTwo, xorshift, breakPatternsOrdered (it permutes within its bounds). -/
import Derived.Test.YtjbmmgclkhigiaaU4
import Derived.Test.YtjbmmgclkhigiaaShelf
import Derived.Laws.Bits64
import Derived.Laws.Bits64b
set_option linter.unusedSimpArgs false
set_option linter.unusedVariables false
namespace Go.Proofs.Ytjbmmgclkhigiaa
open Go.RowKit

theorem bitLen64 (x : Nat) (h : x < 2 ^ 64) : Lib.bitLen x = Sort.bitsLen x := by
  induction x using Nat.strongRecOn with
  | _ x ih =>
    by_cases h0 : x = 0
    · subst h0; rfl
    · rw [Lib.bitLen_half x h0 h, ih (x / 2) (by omega) (by omega)]
      unfold Sort.bitsLen
      rw [if_neg h0, Nat.log2_def x]
      by_cases h2 : 2 ≤ x
      · rw [if_pos h2, if_neg (by omega)]; omega
      · have : x = 1 := by omega
        subst this
        simp
theorem len64 (n : Nat) (hn : n < 4611686018427387904) (w : World) : Calls Try.prog 34 #[.int .u64 (n : Int)] w fun e w' => (∃ k : Nat, k ≤ 62 ∧ k = Sort.bitsLen n ∧ e = .returned (.int .i64 (k : Int))) ∧ w' = w := by
  have h := Any.bits_Len Try.laysBits (n : Int) w (by omega) (by omega)
  refine h.mono ?_
  rintro e w' ⟨rfl, rfl⟩
  refine ⟨⟨_, (Sort.bitsLen_le_iff n 62).2 (by omega), rfl, ?_⟩, rfl⟩
  rw [Int.toNat_natCast, bitLen64 n (by omega)]
theorem wrap64 (k : Nat) (hk : k ≤ 62) : IntKind.u64.wrap ((2 : Int) ^ k) = ((2 ^ k : Nat) : Int) := by
  have h : (2 : Nat) ^ k ≤ 2 ^ 62 := Nat.pow_le_pow_right (by decide) hk
  rw [IntKind.wrap_u64, show ((2 : Int) ^ k) = ((2 ^ k : Nat) : Int) by push_cast; rfl]
  generalize (2 : Nat) ^ k = p at h
  omega
theorem next64 (n : Nat) (h0 : 0 < n) (hn : n < 4611686018427387904) (w : World) : Calls Try.prog 47 #[.int .i64 (n : Int)] w fun e w' => (∃ M : Nat, 1 ≤ M ∧ M ≤ 2 * n ∧ e = .returned (.int .u64 (M : Int))) ∧ w' = w := by
  have hL := Lib.hid (fun W => len64 n hn W)
  go_enter Try.func47, Try.ntmps47
  go_wp2_with (go_at_call 34; refine (hL.out _).mono ?_; rintro e w' ⟨⟨k, hk, hkn, rfl⟩, rfl⟩; have hp := wrap64 k hk; replace hkn := Lib.hid hkn)
  go_ret
  have h1 : 1 ≤ 2 ^ k := Nat.one_le_two_pow
  have h2 : 2 ^ k ≤ 2 * n := by rw [hkn.out]; exact Sort.two_pow_bitsLen_le h0
  exact ⟨⟨2 ^ k, h1, h2, by first | rfl | (push_cast; rfl)⟩, rfl⟩

/-- The generator's cell. -/
def Gen (w : World) (rb : Nat) : Prop := ∃ X : Nat, X < 18446744073709551616 ∧ w.heap[rb]? = some (.cells #[.int .u64 (X : Int)] 88 (0, 0))
set_option maxHeartbeats 8000000 in
set_option maxRecDepth 1000000 in
theorem xor64 (rb : Nat) (w : World) (hG : Gen w rb) : Calls Try.prog 48 #[.pointer (some ⟨rb, 0, none⟩)] w fun e w' => (∃ X : Nat, X < 18446744073709551616 ∧ e = .returned (.int .u64 (X : Int))) ∧ Gen w' rb ∧ Own [rb] w w' := by
  obtain ⟨X, hX, hb⟩ := hG
  have hc : w.cell? ⟨rb, 0, none⟩ = some (.int .u64 (X : Int)) := by rw [cell_of_row _ _ _ _ _ _ hb]; rfl
  have hf := frozen_of_row _ rb 0 _ _ hb
  obtain ⟨A, hA⟩ : ∃ A : Nat, A = X ^^^ (X * 8192 % 18446744073709551616) := ⟨_, rfl⟩
  obtain ⟨B, hB⟩ : ∃ B : Nat, B = A ^^^ (A / 128) := ⟨_, rfl⟩
  obtain ⟨C, hC⟩ : ∃ C : Nat, C = B ^^^ (B * 131072 % 18446744073709551616) := ⟨_, rfl⟩
  have lA : A < 18446744073709551616 := by rw [hA]; exact Nat.xor_lt_two_pow (n := 64) (by omega) (by omega)
  have lB : B < 18446744073709551616 := by rw [hB]; exact Nat.xor_lt_two_pow (n := 64) (by omega) (by omega)
  have lC : C < 18446744073709551616 := by rw [hC]; exact Nat.xor_lt_two_pow (n := 64) (by omega) (by omega)
  have e1 : bits .xor .u64 (X : Int) (IntKind.u64.wrap ((X : Int) * 8192)) = (A : Int) := by
    rw [IntKind.wrap_u64, show ((X : Int) * 8192 % 18446744073709551616) = ((X * 8192 % 18446744073709551616 : Nat) : Int) by omega, bits_xor_u64_nat _ _ hX (by omega), hA]
  have e2 : bits .xor .u64 (A : Int) ((A : Int) / 128) = (B : Int) := by
    rw [show ((A : Int) / 128) = ((A / 128 : Nat) : Int) by omega, bits_xor_u64_nat _ _ lA (by omega), hB]
  have e3 : bits .xor .u64 (B : Int) (IntKind.u64.wrap ((B : Int) * 131072)) = (C : Int) := by
    rw [IntKind.wrap_u64, show ((B : Int) * 131072 % 18446744073709551616) = ((B * 131072 % 18446744073709551616 : Nat) : Int) by omega, bits_xor_u64_nat _ _ lB (by omega), hC]
  have h1 := heap_setCell_same _ rb 0 _ _ (.int .u64 (A : Int)) hb
  have h2 := heap_setCell_same _ rb 0 _ _ (.int .u64 (B : Int)) h1
  have h3 := heap_setCell_same _ rb 0 _ _ (.int .u64 (C : Int)) h2
  have hh : Gen (((w.setCell ⟨rb, 0, none⟩ (.int .u64 (A : Int))).setCell ⟨rb, 0, none⟩ (.int .u64 (B : Int))).setCell ⟨rb, 0, none⟩ (.int .u64 (C : Int))) rb := ⟨C, lC, by simpa using h3⟩
  have ho : Own [rb] w (((w.setCell ⟨rb, 0, none⟩ (.int .u64 (A : Int))).setCell ⟨rb, 0, none⟩ (.int .u64 (B : Int))).setCell ⟨rb, 0, none⟩ (.int .u64 (C : Int))) :=
    (((Own.refl [rb] w).setCell (.inl (by simp)) _).setCell (.inl (by simp)) _).setCell (.inl (by simp)) _
  have c3 : (((w.setCell ⟨rb, 0, none⟩ (.int .u64 (A : Int))).setCell ⟨rb, 0, none⟩ (.int .u64 (B : Int))).setCell ⟨rb, 0, none⟩ (.int .u64 (C : Int))).cell? ⟨rb, 0, none⟩ = some (.int .u64 (C : Int)) := by rw [cell_of_row _ _ _ _ _ _ h3]; rfl
  replace hh := Lib.hid hh
  replace ho := Lib.hid ho
  replace lC := Lib.hid lC
  clear hA hB hC hb h1 h2 h3
  go_enter Try.func48, Try.ntmps48
  go_wp2_with fail
  go_region
  go_wp2_with fail
  go_region
  go_wp2_with fail
  go_region
  go_wp2_with fail
  go_ret
  exact ⟨⟨C, lC.out, rfl⟩, hh.out, ho.out.drewN 3⟩
/-- What breakPatterns leaves: the row permuted; new memory. -/
def BrkP (blk off a b : Nat) (d : Array Int) (w w' : World) : Prop := ∃ d', Sort.Holds eU w' blk off d' ∧ Own [blk] w w' ∧ Sort.PermIn a b d d'
set_option maxHeartbeats 8000000 in
set_option maxRecDepth 1000000 in
theorem brk64 (blk off cap a b n : Nat) (d : Array Int) (hn : d.size = n) (w : World) (hH : Sort.Holds eU w blk off d) (hab : a < b) (hb : b ≤ n) (hsz : n < 4611686018427387904) :
    Calls Try.prog 37 #[.slice (some ⟨blk, off, none⟩) n cap, .int .i64 a, .int .i64 b] w fun e w' => e = .returned (.tuple #[]) ∧ BrkP blk off a b d w w' := by
  have hbl : blk < w.heap.size := block_lt_of_cell (hH a (by omega)).1
  have hn' : Aside (d.size = n) := hn
  obtain ⟨L, hL⟩ : ∃ L, b = a + L := ⟨b - a, by omega⟩
  subst hL
  have ez2 : ((a : Int) + (L : Int) - (a : Int)) = (L : Int) := by omega
  by_cases h8 : 8 ≤ L
  · have hLw : IntKind.u64.wrap (L : Int) = (L : Int) := by rw [IntKind.wrap_u64]; omega
    have hO1 : Own [] w (w.alloc (.cells #[.int .u64 (L : Int)] 88)) := (Own.refl _ _).alloc _
    have hG1 : Gen (w.alloc (.cells #[.int .u64 (L : Int)] 88)) w.heap.size := ⟨L, by omega, heap_alloc_new w _⟩
    have hH1 := holds_own hH hO1 (by simp)
    have hN := Lib.hid (fun W => next64 L (by omega) (by omega) W)
    have h0 : Aside (∃ d', Sort.Holds eU (w.alloc (.cells #[.int .u64 (L : Int)] 88)) blk off d' ∧ Aside (d'.size = n) ∧ Sort.PermIn a (a + L) d d') := ⟨d, hH1, hn, Sort.permIn_refl _ _ _⟩
    replace hO1 := Lib.hid hO1
    replace hG1 := Lib.hid hG1
    clear hH hH1 hn
    go_enter Try.func37, Try.ntmps37
    go_wp2_with (go_at_call 47; refine (hN.out _).mono ?_; rintro e w' ⟨⟨M, hM1, hM2, rfl⟩, rfl⟩)
    go_loopg [9] 4 (fun k s9 wr => ∃ t : Nat, s9 = .int .i64 ((a + L / 4 * 2 - 1 + t : Nat) : Int) ∧ t + k = 4 ∧ t ≤ 3 ∧ Aside (Gen wr w.heap.size) ∧ Aside (Own [w.heap.size, blk] w wr) ∧ Aside (∃ d', Sort.Holds eU wr blk off d' ∧ Aside (d'.size = n) ∧ Sort.PermIn a (a + L) d d'))
    case atStart => exact ⟨0, by congr 1; omega, rfl, by omega, hG1.out, hO1.out.nil, h0⟩
    case round =>
      obtain ⟨t, rfl, htk, ht3, hG, hO, hD⟩ := hrel
      clear h0
      obtain ⟨dk, hHk, hsk, hPk⟩ := hD.out
      have cX := Lib.hid (xor64 w.heap.size wr hG.out)
      by_cases h3 : t < 3
      · obtain ⟨I, hI⟩ : ∃ I, a + L / 4 * 2 - 1 + t = I := ⟨_, rfl⟩
        have hI1 : a ≤ I ∧ I < a + L := by omega
        have htz : (I : Int) ≤ (a : Int) + (L : Int) / 4 * 2 + 1 := by omega
        have hnx : Aside (I + 1 = a + L / 4 * 2 - 1 + (t + 1)) := by show _ = _; omega
        obtain ⟨hI1, hI2⟩ := hI1
        rw [hI]
        clear hI
        replace hHk := Lib.hid hHk
        replace hPk := Lib.hid hPk
        go_wp2_with (go_at_call 48; refine cX.out.mono ?_; rintro e w1 ⟨⟨X, hX, rfl⟩, hG1', hO1'⟩; have eAnd : bits .and .u64 (X : Int) ((M : Int) - 1) = ((X &&& (M - 1) : Nat) : Int) := (by rw [show ((M : Int) - 1) = ((M - 1 : Nat) : Int) by omega, bits_and_u64_nat _ _ hX (by omega)]); obtain ⟨O, hOv⟩ : ∃ O, X &&& (M - 1) = O := ⟨_, rfl⟩; have hO2 : O ≤ M - 1 := (by rw [← hOv]; exact Nat.and_le_right); rw [hOv] at eAnd; clear hOv; have hG1' := Lib.hid hG1'; have hO1' := Lib.hid hO1')
        all_goals
          have hH1 : Sort.Holds eU w1 blk off dk := holds_own hHk.out hO1'.out (by simp; omega)
          obtain ⟨G, HG, hcw, hfw⟩ := (Rw.refl hH1).fam hsk.out
          replace hH1 := Lib.hid hH1
        · have hLO : L ≤ O := by omega
          obtain ⟨J, hJ⟩ : ∃ J, a + (O - L) = J := ⟨_, rfl⟩
          have ej : ((a : Int) + ((O : Int) - (L : Int))) = (J : Int) := by omega
          obtain ⟨v3, hy3⟩ := cell?_setCell_some (p := ⟨blk, off + I, none⟩) (x := .int .u64 (G J)) (q := ⟨blk, off + J, none⟩) (hcw J (by omega))
          have hIn : I < n := by omega
          have hJn : J < n := by omega
          have hP := (Rw.refl hH1.out).swap (i := I) (j := J) (by rw [hsk.out]; omega) (by rw [hsk.out]; omega) (x := .int .u64 (G J)) (y := .int .u64 (G I)) (by rw [← HG.out]) (by rw [← HG.out])
          have hPm := Sort.swp_permIn dk a (a + L) I J hI1 hI2 (by omega) (by omega) (by rw [hsk.out]; omega)
          replace hP := Lib.hid hP
          replace hPm := Lib.hid hPm
          clear hJ
          go_region
          all_goals go_wp2_with fail
          go_roundg (3 - t)
          case measure => omega
          case rel =>
            have hP1 := hP.out
            refine ⟨t + 1, by rw [← hnx.out]; go_num, by omega, by omega, ?_, ?_, Sort.swp dk I J, ?_, (Sort.size_swp _ _ _).trans hsk.out, Sort.permIn_trans _ _ _ _ _ hPk.out hPm.out⟩
            · obtain ⟨Y, hY, hYb⟩ := hG1'.out
              exact ⟨Y, hY, hP1.own.drew.heap hYb (by simp; omega)⟩
            · exact (hO.out.trans (hO1'.out.mono (by simp))).trans (hP1.own.drew.mono (by simp))
            · exact hP1.drew.row
        · have hLO : ¬ L ≤ O := by omega
          obtain ⟨J, hJ⟩ : ∃ J, a + O = J := ⟨_, rfl⟩
          have ej : ((a : Int) + (O : Int)) = (J : Int) := by omega
          obtain ⟨v3, hy3⟩ := cell?_setCell_some (p := ⟨blk, off + I, none⟩) (x := .int .u64 (G J)) (q := ⟨blk, off + J, none⟩) (hcw J (by omega))
          have hIn : I < n := by omega
          have hJn : J < n := by omega
          have hP := (Rw.refl hH1.out).swap (i := I) (j := J) (by rw [hsk.out]; omega) (by rw [hsk.out]; omega) (x := .int .u64 (G J)) (y := .int .u64 (G I)) (by rw [← HG.out]) (by rw [← HG.out])
          have hPm := Sort.swp_permIn dk a (a + L) I J hI1 hI2 (by omega) (by omega) (by rw [hsk.out]; omega)
          replace hP := Lib.hid hP
          replace hPm := Lib.hid hPm
          clear hJ
          go_region
          all_goals go_wp2_with fail
          go_roundg (3 - t)
          case measure => omega
          case rel =>
            have hP1 := hP.out
            refine ⟨t + 1, by rw [← hnx.out]; go_num, by omega, by omega, ?_, ?_, Sort.swp dk I J, ?_, (Sort.size_swp _ _ _).trans hsk.out, Sort.permIn_trans _ _ _ _ _ hPk.out hPm.out⟩
            · obtain ⟨Y, hY, hYb⟩ := hG1'.out
              exact ⟨Y, hY, hP1.own.drew.heap hYb (by simp; omega)⟩
            · exact (hO.out.trans (hO1'.out.mono (by simp))).trans (hP1.own.drew.mono (by simp))
            · exact hP1.drew.row
      · obtain rfl : t = 3 := by omega
        have htz : ¬ ((a + L / 4 * 2 - 1 + 3 : Nat) : Int) ≤ (a : Int) + (L : Int) / 4 * 2 + 1 := by omega
        obtain ⟨I, hI⟩ : ∃ I, a + L / 4 * 2 - 1 + 3 = I := ⟨_, rfl⟩
        rw [hI] at htz ⊢
        clear hI
        replace hHk := Lib.hid hHk
        replace hPk := Lib.hid hPk
        go_wp2_with fail
        go_end0
        exact ⟨rfl, dk, hHk.out, hO.out.weaken (by intro x hx; simp at hx; rcases hx with rfl | rfl; exact .inr (Nat.le_refl _); exact .inl (by simp)), hPk.out⟩
  · have h8z : ¬ (8 : Int) ≤ (L : Int) := by omega
    replace hH := Lib.hid hH
    clear hn
    go_enter Try.func37, Try.ntmps37
    go_wp2_with fail
    go_end0
    exact ⟨rfl, d, hH.out, Own.refl _ _, Sort.permIn_refl _ _ _⟩
end Go.Proofs.Ytjbmmgclkhigiaa
