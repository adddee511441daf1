/- The library's sort at uint64: insertionSortOrdered, reverseRangeOrdered, siftDownOrdered, heapSortOrdered. -/
import Derived.Test.YtjbmmgclkhigiaaU0
set_option linter.unusedSimpArgs false
set_option linter.unusedVariables false
namespace Go.Proofs.Ytjbmmgclkhigiaa
open Go.RowKit

set_option maxHeartbeats 8000000 in
set_option maxRecDepth 1000000 in
theorem ins64 (blk off cap a b n : Nat) (d : Array Int) (hn : d.size = n) (w : World) (hH : Sort.Holds eU w blk off d) (hab : a ≤ b) (hb : b ≤ n) (hsz : n < 4611686018427387904) :
    Calls Try.prog 35 #[.slice (some ⟨blk, off, none⟩) n cap, .int .i64 a, .int .i64 b] w fun e w' => e = .returned (.tuple #[]) ∧ Rw blk off w w' (Sort.insertionSort Sort.ltInt d a b) := by
  have R0 : Aside (Rw blk off w w d) := Rw.refl hH
  have hn' : Aside (d.size = n) := hn
  clear hH hn
  go_enter Try.func35, Try.ntmps35
  go_wp2_with fail
  go_loopg [6] (b + 1) (fun k s6 wr => ∃ (i : Nat) (dk : Array Int), s6 = .int .i64 i ∧ a < i ∧ i ≤ b + 1 ∧ b + 1 - i ≤ k ∧ Aside (dk.size = n) ∧ Aside (Rw blk off w wr dk) ∧ Aside (Sort.insOuter Sort.ltInt a b i dk = Sort.insOuter Sort.ltInt a b (a + 1) d))
  case atStart => exact ⟨a + 1, d, by go_num, by omega, by omega, by omega, hn', R0, rfl⟩
  case round =>
    obtain ⟨i, dk, rfl, hai, hib, hk, hsk, HR, HO⟩ := hrel
    by_cases hlt : i < b
    · go_wp2_with fail
      go_loopg [7] i (fun k s7 wr2 => ∃ (j : Nat) (dj : Array Int), s7 = .int .i64 j ∧ a ≤ j ∧ j ≤ i ∧ j ≤ k ∧ Aside (dj.size = n) ∧ Aside (Rw blk off w wr2 dj) ∧ Aside (Sort.insInner Sort.ltInt a j dj = Sort.insInner Sort.ltInt a i dk))
      case atStart => exact ⟨i, dk, rfl, by omega, Nat.le_refl _, Nat.le_refl _, hsk, HR, rfl⟩
      case round =>
        obtain ⟨j, dj, rfl, haj, hji, hjk, hsj, HRj, HI⟩ := hrel
        obtain ⟨G, HG, hcw, hfw⟩ := HRj.out.fam hsj.out
        by_cases hja : a < j
        · go_wp2_with fail
          go_big_quiet (first | (go_at_call 41; refine Calls.quiet_of_same (less64 _ _ _)))
          go_wp2_with fail
          · have hl : Sort.ltInt (G j) (G (j - 1)) = true := by assumption
            go_region
            all_goals go_wp2_with fail
            go_roundg (j - 1)
            case measure => omega
            case rel =>
              refine ⟨j - 1, Sort.swp dj j (j - 1), by congr 1; omega, by omega, by omega, by omega, (Sort.size_swp _ _ _).trans hsj.out, ?_, ?_⟩
              · first
                  | exact (HRj.out.drewN _).swap (by rw [hsj.out]; omega) (by rw [hsj.out]; omega) (by rw [← HG.out]) (by rw [← HG.out])
                  | exact ((HRj.out.drewN _).swap (by rw [hsj.out]; omega) (by rw [hsj.out]; omega) (by rw [← HG.out]) (by rw [← HG.out])).drew
              · exact (in_go Sort.ltInt hja (by rw [← HG.out, ← HG.out]; exact hl)).trans HI.out
          · have hl : Sort.ltInt (G j) (G (j - 1)) = false := by assumption
            go_roundg (b - i)
            case measure => omega
            case rel =>
              refine ⟨i + 1, dj, by go_num, by omega, by omega, by omega, hsj, HRj.out.drewN _, ?_⟩
              show Sort.insOuter Sort.ltInt a b (i + 1) dj = _
              rw [← HO.out, ← out_go Sort.ltInt hlt, ← HI.out, in_end Sort.ltInt (Or.inr (by rw [← HG.out, ← HG.out]; exact hl))]
        · have hja2 : decide ((a : Int) < (j : Int)) = false := decide_eq_false (by omega)
          go_wp2_with fail
          go_big_quiet (first | (go_at_call 41; refine Calls.quiet_of_same (less64 _ _ _)))
          go_wp2_with fail
          go_roundg (b - i)
          case measure => omega
          case rel =>
            refine ⟨i + 1, dj, by go_num, by omega, by omega, by omega, hsj, HRj.out.drewN _, ?_⟩
            show Sort.insOuter Sort.ltInt a b (i + 1) dj = _
            rw [← HO.out, ← out_go Sort.ltInt hlt, ← HI.out, in_end Sort.ltInt (Or.inl (by omega))]
    · go_wp2_with fail
      go_end0
      refine ⟨rfl, ?_⟩
      have e : Sort.insertionSort Sort.ltInt d a b = dk := by unfold Sort.insertionSort; rw [← HO.out, out_end Sort.ltInt hlt]
      rw [e]
      exact HR.out

set_option maxHeartbeats 8000000 in
set_option maxRecDepth 1000000 in
theorem rev64 (blk off cap a b n : Nat) (d : Array Int) (hn : d.size = n) (w : World) (hH : Sort.Holds eU w blk off d) (hab : a ≤ b) (hb : b ≤ n) (hsz : n < 4611686018427387904) :
    Calls Try.prog 39 #[.slice (some ⟨blk, off, none⟩) n cap, .int .i64 a, .int .i64 b] w fun e w' => e = .returned (.tuple #[]) ∧ ∃ d', Rw blk off w w' d' ∧ Sort.PermIn a b d d' := by
  have R0 : Aside (Rw blk off w w d) := Rw.refl hH
  have hn' : Aside (d.size = n) := hn
  clear hH hn
  go_enter Try.func39, Try.ntmps39
  go_wp2_with fail
  go_loopg [6, 7] b (fun k s6 s7 wr => ∃ (i : Nat) (jz : Int) (dk : Array Int), s6 = .int .i64 i ∧ s7 = .int .i64 jz ∧ a ≤ i ∧ i ≤ b ∧ jz < b ∧ -1 ≤ jz ∧ b - i ≤ k ∧ Aside (dk.size = n) ∧ Aside (Rw blk off w wr dk) ∧ Aside (Sort.PermIn a b d dk))
  case atStart => exact ⟨a, (b : Int) - 1, d, rfl, rfl, Nat.le_refl _, hab, by omega, by omega, by omega, hn', R0, Sort.permIn_refl _ _ _⟩
  case round =>
    obtain ⟨i, jz, dk, rfl, rfl, hai, hib, hjb, hj1, hk, hsk, HR, HP⟩ := hrel
    by_cases hlt : (i : Int) < jz
    · obtain ⟨j, rfl⟩ : ∃ j : Nat, jz = j := ⟨jz.toNat, by omega⟩
      have hij : i < j := by omega
      obtain ⟨G, HG, hcw, hfw⟩ := HR.out.fam hsk.out
      go_wp2_with fail
      go_region
      all_goals go_wp2_with fail
      go_roundg (b - (i + 1))
      case measure => omega
      case rel =>
        refine ⟨i + 1, (j : Int) - 1, Sort.swp dk i j, by go_num, rfl, by omega, by omega, by omega, by omega, by omega, (Sort.size_swp _ _ _).trans hsk.out, ?_, ?_⟩
        · first
            | exact (HR.out.swap (by rw [hsk.out]; omega) (by rw [hsk.out]; omega) (by rw [← HG.out]) (by rw [← HG.out])).drew
            | exact (HR.out.drewN _).swap (by rw [hsk.out]; omega) (by rw [hsk.out]; omega) (by rw [← HG.out]) (by rw [← HG.out])
            | exact HR.out.drew.swap (by rw [hsk.out]; omega) (by rw [hsk.out]; omega) (by rw [← HG.out]) (by rw [← HG.out])
        · exact Sort.permIn_trans _ _ _ _ _ HP.out (Sort.swp_permIn dk a b i j hai (by omega) (by omega) (by omega) (by rw [hsk.out]; exact hb))
    · have hlt2 : decide ((i : Int) < jz) = false := decide_eq_false hlt
      go_wp2_with fail
      go_end0
      exact ⟨rfl, dk, HR.out, HP.out⟩
end Go.Proofs.Ytjbmmgclkhigiaa
