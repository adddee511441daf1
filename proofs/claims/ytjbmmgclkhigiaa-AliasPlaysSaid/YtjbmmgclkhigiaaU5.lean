/- The library's sort at uint64: partialInsertionSortOrdered. -/
import Derived.Test.YtjbmmgclkhigiaaU0
set_option linter.unusedSimpArgs false
set_option linter.unusedVariables false
namespace Go.Proofs.Ytjbmmgclkhigiaa
open Go.RowKit

section
variable {α : Type} [Inhabited α] (lt : α → α → Bool)
theorem sorted_le {d : Array α} {b : Nat} : ∀ (n i : Nat), b - i = n → i ≤ b → i ≤ Sort.scanSorted lt d b i ∧ Sort.scanSorted lt d b i ≤ b
  | 0, i, h, hb => by
    have e : ¬ i < b := by omega
    rw [sorted_end lt (Or.inl e)]
    exact ⟨Nat.le_refl _, hb⟩
  | n + 1, i, h, hb => by
    cases hl : lt d[i]! d[i - 1]! with
    | false =>
      obtain ⟨h1, h2⟩ := sorted_le (d := d) (b := b) n (i + 1) (by omega) (by omega)
      rw [← sorted_go lt (by omega) hl]
      exact ⟨by omega, h2⟩
    | true => rw [sorted_end lt (Or.inr hl)]; exact ⟨Nat.le_refl _, hb⟩
end
set_option maxHeartbeats 16000000 in
set_option maxRecDepth 1000000 in
theorem pins64 (blk off cap a b n : Nat) (d : Array Int) (hn : d.size = n) (w : World) (hH : Sort.Holds eU w blk off d) (hab : a < b) (hb : b ≤ n) (hsz : n < 4611686018427387904) :
    Calls Try.prog 40 #[.slice (some ⟨blk, off, none⟩) n cap, .int .i64 a, .int .i64 b] w fun e w' =>
      e = .returned (.bool (Sort.partialInsertionSort Sort.ltInt d a b).2) ∧ Rw blk off w w' (Sort.partialInsertionSort Sort.ltInt d a b).1 := by
  have R0 : Aside (Rw blk off w w d) := Rw.refl hH
  have hn' : Aside (d.size = n) := hn
  clear hH hn
  go_enter Try.func40, Try.ntmps40
  go_wp2_with fail
  go_loopg [7, 8] 5 (fun k s7 s8 wr => ∃ (i s : Nat) (dk : Array Int), s7 = .int .i64 i ∧ s8 = .int .i64 s ∧ s + k = 5 ∧ a < i ∧ i ≤ b ∧ Aside (dk.size = n) ∧ Aside (Rw blk off w wr dk) ∧ Aside (Sort.partialIns Sort.ltInt a b k i dk = Sort.partialInsertionSort Sort.ltInt d a b))
  case atStart => exact ⟨a + 1, 0, d, by go_num, rfl, rfl, by omega, by omega, hn', R0, rfl⟩
  case round =>
    obtain ⟨i, s, dk, rfl, rfl, hsk5, hai, hib, hsk, HR, HO⟩ := hrel
    cases gk with
    | zero =>
      obtain rfl : s = 5 := by omega
      go_wp2_with fail
      go_ret
      have e : Sort.partialInsertionSort Sort.ltInt d a b = (dk, false) := HO.out.symm
      rw [e]
      exact ⟨rfl, HR.out⟩
    | succ k =>
      have hs5 : s < 5 := by omega
      obtain ⟨i2, hi2⟩ : ∃ i2, i2 = Sort.scanSorted Sort.ltInt dk b i := ⟨_, rfl⟩
      obtain ⟨q1, q2⟩ := sorted_le Sort.ltInt (d := dk) (b := b) _ i rfl hib
      rw [← hi2] at q1 q2
      obtain ⟨d1, hd1⟩ : ∃ d1, d1 = Sort.swp dk i2 (i2 - 1) := ⟨_, rfl⟩
      obtain ⟨d2, hd2⟩ : ∃ d2, d2 = if i2 - a ≥ 2 then Sort.shiftDown Sort.ltInt (i2 - 1) d1 else d1 := ⟨_, rfl⟩
      obtain ⟨d3, hd3⟩ : ∃ d3, d3 = if b - i2 ≥ 2 then Sort.shiftUp Sort.ltInt b (i2 + 1) d2 else d2 := ⟨_, rfl⟩
      have HE : Aside (Sort.partialInsertionSort Sort.ltInt d a b = if i2 = b then (dk, true) else if b - a < 50 then (dk, false) else Sort.partialIns Sort.ltInt a b k i2 d3) := by
        show _ = _
        rw [← HO.out, hd3, hd2, hd1, hi2]
        rfl
      have HI2 : Aside (i2 = Sort.scanSorted Sort.ltInt dk b i) := hi2
      have HD1 : Aside (d1 = Sort.swp dk i2 (i2 - 1)) := hd1
      have HD2 : Aside (d2 = if i2 - a ≥ 2 then Sort.shiftDown Sort.ltInt (i2 - 1) d1 else d1) := hd2
      have HD3 : Aside (d3 = if b - i2 ≥ 2 then Sort.shiftUp Sort.ltInt b (i2 + 1) d2 else d2) := hd3
      have hs1 : Aside (d1.size = n) := by show _ = _; rw [hd1]; exact (Sort.size_swp _ _ _).trans hsk.out
      clear hi2 hd1 hd2 hd3 HO
      obtain ⟨G, HG, hcw, hfw⟩ := HR.out.fam hsk.out
      go_upto_block 2 with fail
      go_cut [7] from 13 to 132 (fun s7 wx => s7 = .int .i64 i2 ∧ Aside (Rw blk off w wx dk))
      case first =>
        go_wp2_with fail
        go_loopg [7] (b - i) (fun k s7 wx => ∃ x : Nat, s7 = .int .i64 x ∧ i ≤ x ∧ x ≤ b ∧ b - x ≤ k ∧ Aside (Rw blk off w wx dk) ∧ Aside (Sort.scanSorted Sort.ltInt dk b x = i2))
        case atStart => exact ⟨i, rfl, Nat.le_refl _, hib, Nat.le_refl _, HR, HI2.out.symm⟩
        case round =>
          obtain ⟨x, rfl, hix, hxb, hk3, HRx, HX⟩ := hrel
          clear hcw hfw
          obtain ⟨hcw, hfw⟩ := HRx.out.famG hsk.out HG.out
          by_cases hle : x < b
          · go_wp2_with fail
            go_big_quiet (first | (go_at_call 41; refine Calls.quiet_of_same (less64 _ _ _)))
            go_wp2_with fail
            · have ht : (!Sort.ltInt (G x) (G (x - 1))) = true := by assumption
              go_roundg (b - (x + 1))
              case measure => omega
              case rel => exact ⟨x + 1, by go_num, by omega, by omega, Nat.le_refl _, HRx.out.drewN _, (sorted_go Sort.ltInt hle (by rw [← HG.out x, ← HG.out (x - 1)]; simpa using ht)).trans HX.out⟩
            · have ht : (!Sort.ltInt (G x) (G (x - 1))) = false := by assumption
              go_meet
              case rel => exact ⟨congrArg (fun q : Nat => Value.int .i64 q) ((sorted_end Sort.ltInt (Or.inr (by rw [← HG.out x, ← HG.out (x - 1)]; simpa using ht))).symm.trans HX.out), HRx.out.drewN _⟩
          · have hle2 : decide ((x : Int) < (b : Int)) = false := decide_eq_false (by omega)
            go_wp2_with fail
            go_big_quiet (first | (go_at_call 41; refine Calls.quiet_of_same (less64 _ _ _)))
            go_wp2_with fail
            go_meet
            case rel => exact ⟨congrArg (fun q : Nat => Value.int .i64 q) ((sorted_end Sort.ltInt (Or.inl hle)).symm.trans HX.out), HRx.out.drewN _⟩
      case rest =>
        obtain ⟨rfl, HR2⟩ := hcut
        clear hcw hfw
        by_cases hib2 : i2 = b
        · have hz : ((i2 : Int) == (b : Int)) = true := by rw [hib2]; simp
          have e := HE.out
          rw [if_pos hib2] at e
          replace e := Lib.hid e
          clear hib2
          go_wp2_with fail
          go_ret
          rw [e.out]
          exact ⟨rfl, HR2.out⟩
        · have hz : ((i2 : Int) == (b : Int)) = false := beq_eq_false_iff_ne.2 (by omega)
          have hlt2 : i2 < b := by omega
          by_cases h50 : b - a < 50
          · have h50z : (b : Int) - (a : Int) < 50 := by omega
            have e := HE.out
            rw [if_neg hib2, if_pos h50] at e
            replace e := Lib.hid e
            go_wp2_with fail
            go_ret
            rw [e.out]
            exact ⟨rfl, HR2.out⟩
          · have h50z : ¬ (b : Int) - (a : Int) < 50 := by omega
            have HF : Aside (Sort.partialIns Sort.ltInt a b k i2 d3 = Sort.partialInsertionSort Sort.ltInt d a b) := by
              have e := HE.out
              rw [if_neg hib2, if_neg h50] at e
              exact e.symm
            obtain ⟨hcw, hfw⟩ := HR2.out.famG hsk.out HG.out
            have hP := HR2.out.swap (i := i2) (j := i2 - 1) (by rw [hsk.out]; omega) (by rw [hsk.out]; omega) (x := .int .u64 (G (i2 - 1))) (y := .int .u64 (G i2)) (by rw [← HG.out]) (by rw [← HG.out])
            rw [← HD1.out] at hP
            replace hP := Lib.hid hP
            go_upto_region 11 with fail
            go_region
            go_upto_if 61 with fail
            generalize hW : World.drew _ = W at *
            have HR3 : Aside (Rw blk off w W d1) := by rw [← hW]; exact hP.out.drew
            clear hW hP hcw hfw
            go_cut [] from 13 to 132 (fun wx => Aside (d2.size = n) ∧ Aside (Rw blk off w wx d2))
            case first =>
              by_cases h2 : i2 - a ≥ 2
              · have h2z : (2 : Int) ≤ (i2 : Int) - (a : Int) := by omega
                have HD : Aside (Sort.shiftDown Sort.ltInt (i2 - 1) d1 = d2) := by have e := HD2.out; rw [if_pos h2] at e; exact e.symm
                go_wp2_with fail
                go_loopg [9] i2 (fun k s9 wx => ∃ (j : Nat) (dj : Array Int), s9 = .int .i64 j ∧ j ≤ i2 - 1 ∧ j < k ∧ Aside (dj.size = n) ∧ Aside (Rw blk off w wx dj) ∧ Aside (Sort.shiftDown Sort.ltInt j dj = d2))
                case atStart => exact ⟨i2 - 1, d1, by congr 1; omega, Nat.le_refl _, by omega, hs1, HR3, HD⟩
                case round =>
                  obtain ⟨j, dj, rfl, hj1, hjk, hsj, HRj, HX⟩ := hrel
                  clear HG
                  obtain ⟨G, HG, hcw, hfw⟩ := HRj.out.fam hsj.out
                  by_cases hj0 : 1 ≤ j
                  · go_wp2_with fail
                    go_big_quiet (first | (go_at_call 41; refine Calls.quiet_of_same (less64 _ _ _)))
                    go_wp2_with fail
                    · have ht : Sort.ltInt (G j) (G (j - 1)) = false := by
                        have : (!Sort.ltInt (G j) (G (j - 1))) = true := by assumption
                        simpa using this
                      go_meet
                      case rel =>
                        have e := (sdown_end Sort.ltInt (Or.inr (by rw [← HG.out, ← HG.out]; exact ht))).symm.trans HX.out
                        rw [← e]
                        exact ⟨hsj, HRj.out.drewN _⟩
                    · have ht : Sort.ltInt (G j) (G (j - 1)) = true := by
                        have : (!Sort.ltInt (G j) (G (j - 1))) = false := by assumption
                        simpa using this
                      go_region
                      all_goals go_wp2_with fail
                      go_roundg j
                      case measure => omega
                      case rel =>
                        refine ⟨j - 1, Sort.swp dj j (j - 1), by congr 1; omega, by omega, by omega, (Sort.size_swp _ _ _).trans hsj.out, ?_, (sdown_go Sort.ltInt hj0 (by rw [← HG.out, ← HG.out]; exact ht)).trans HX.out⟩
                        first
                          | exact (HRj.out.drewN _).swap (by rw [hsj.out]; omega) (by rw [hsj.out]; omega) (by rw [← HG.out]) (by rw [← HG.out])
                          | exact ((HRj.out.drewN _).swap (by rw [hsj.out]; omega) (by rw [hsj.out]; omega) (by rw [← HG.out]) (by rw [← HG.out])).drew
                  · obtain rfl : j = 0 := by omega
                    go_wp2_with fail
                    go_meet
                    case rel =>
                      have e := (sdown_end Sort.ltInt (Or.inl rfl)).symm.trans HX.out
                      rw [← e]
                      exact ⟨hsj, HRj⟩
              · have h2z : ¬ (2 : Int) ≤ (i2 : Int) - (a : Int) := by omega
                have e : d2 = d1 := by have e := HD2.out; rw [if_neg h2] at e; exact e
                have hfin : Aside (d2.size = n) ∧ Aside (Rw blk off w W d2) := by rw [e]; exact ⟨hs1, HR3⟩
                replace hfin := Lib.hid hfin
                clear e
                go_wp2_with fail
                go_meet
                case rel => exact hfin.out
            case rest =>
              obtain ⟨hs2, HR4⟩ := hcut
              have hfin : Hid (∀ W, Aside (d3.size = n) → Aside (Rw blk off w W d3) → ∃ (i s' : Nat) (dk : Array Int), Value.int .i64 i2 = .int .i64 i ∧ Value.int .i64 ((s : Int) + 1) = .int .i64 s' ∧ s' + k = 5 ∧ a < i ∧ i ≤ b ∧ Aside (dk.size = n) ∧ Aside (Rw blk off w W dk) ∧ Aside (Sort.partialIns Sort.ltInt a b k i dk = Sort.partialInsertionSort Sort.ltInt d a b)) :=
                Lib.hid fun W h1 h2 => ⟨i2, s + 1, d3, rfl, by go_num, by omega, by omega, by omega, h1, h2, HF⟩
              go_upto_if 98 with fail
              by_cases h2 : b - i2 ≥ 2
              · have h2z : (2 : Int) ≤ (b : Int) - (i2 : Int) := by omega
                have HD : Aside (Sort.shiftUp Sort.ltInt b (i2 + 1) d2 = d3) := by have e := HD3.out; rw [if_pos h2] at e; exact e.symm
                go_wp2_with fail
                go_loopg [10] b (fun k s10 wx => ∃ (j : Nat) (dj : Array Int), s10 = .int .i64 j ∧ i2 + 1 ≤ j ∧ j ≤ b ∧ b - j ≤ k ∧ Aside (dj.size = n) ∧ Aside (Rw blk off w wx dj) ∧ Aside (Sort.shiftUp Sort.ltInt b j dj = d3))
                case atStart => exact ⟨i2 + 1, d2, by go_num, Nat.le_refl _, by omega, by omega, hs2, HR4, HD⟩
                case round =>
                  obtain ⟨j, dj, rfl, hj1, hjb, hjk, hsj, HRj, HX⟩ := hrel
                  clear HG
                  obtain ⟨G, HG, hcw, hfw⟩ := HRj.out.fam hsj.out
                  by_cases hj0 : j < b
                  · go_wp2_with fail
                    go_big_quiet (first | (go_at_call 41; refine Calls.quiet_of_same (less64 _ _ _)))
                    go_wp2_with fail
                    · have ht : Sort.ltInt (G j) (G (j - 1)) = false := by
                        have : (!Sort.ltInt (G j) (G (j - 1))) = true := by assumption
                        simpa using this
                      go_roundg k
                      case measure => omega
                      case rel =>
                        have e := (sup_end Sort.ltInt (Or.inr (by rw [← HG.out, ← HG.out]; exact ht))).symm.trans HX.out
                        exact hfin.out _ (by rw [← e]; exact hsj) (by rw [← e]; exact HRj.out.drewN _)
                    · have ht : Sort.ltInt (G j) (G (j - 1)) = true := by
                        have : (!Sort.ltInt (G j) (G (j - 1))) = false := by assumption
                        simpa using this
                      go_region
                      all_goals go_wp2_with fail
                      go_roundg (b - (j + 1))
                      case measure => omega
                      case rel =>
                        refine ⟨j + 1, Sort.swp dj j (j - 1), by go_num, by omega, by omega, Nat.le_refl _, (Sort.size_swp _ _ _).trans hsj.out, ?_, (sup_go Sort.ltInt hj0 (by rw [← HG.out, ← HG.out]; exact ht)).trans HX.out⟩
                        first
                          | exact (HRj.out.drewN _).swap (by rw [hsj.out]; omega) (by rw [hsj.out]; omega) (by rw [← HG.out]) (by rw [← HG.out])
                          | exact ((HRj.out.drewN _).swap (by rw [hsj.out]; omega) (by rw [hsj.out]; omega) (by rw [← HG.out]) (by rw [← HG.out])).drew
                  · obtain rfl : j = b := by omega
                    have hj0z : ¬ (j : Int) < (j : Int) := by omega
                    go_wp2_with fail
                    go_roundg k
                    case measure => omega
                    case rel =>
                      have e := (sup_end Sort.ltInt (Or.inl (Nat.lt_irrefl _))).symm.trans HX.out
                      exact hfin.out _ (by rw [← e]; exact hsj) (by rw [← e]; exact HRj)
              · have h2z : ¬ (2 : Int) ≤ (b : Int) - (i2 : Int) := by omega
                have e : d3 = d2 := by have e := HD3.out; rw [if_neg h2] at e; exact e
                have hfin2 : Hid (∀ W, Aside (Rw blk off w W d2) → Aside (d3.size = n) ∧ Aside (Rw blk off w W d3)) := Lib.hid fun W h => by rw [e]; exact ⟨hs2, h⟩
                clear e
                go_wp2_with fail
                go_roundg k
                case measure => omega
                case rel => exact hfin.out _ (hfin2.out _ HR4).1 (hfin2.out _ HR4).2
end Go.Proofs.Ytjbmmgclkhigiaa
