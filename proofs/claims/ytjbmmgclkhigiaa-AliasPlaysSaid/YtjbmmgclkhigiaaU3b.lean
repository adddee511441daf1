/- The library's sort at uint64: partitionEqualOrdered, partitionOrdered (printed by wip/tools/genu3.py). -/
import Derived.Test.YtjbmmgclkhigiaaU3
set_option linter.unusedSimpArgs false
set_option linter.unusedVariables false
namespace Go.Proofs.Ytjbmmgclkhigiaa
open Go.RowKit


set_option maxHeartbeats 16000000 in
set_option maxRecDepth 1000000 in
theorem part64 (blk off cap a b pivot n : Nat) (d : Array Int) (hn : d.size = n) (w : World) (hH : Sort.Holds eU w blk off d) (hap : a ≤ pivot) (hpb : pivot < b) (hb : b ≤ n) (hsz : n < 4611686018427387904) :
    Calls Try.prog 43 #[.slice (some ⟨blk, off, none⟩) n cap, .int .i64 a, .int .i64 b, .int .i64 pivot] w fun e w' =>
      e = .returned (.tuple #[.int .i64 (Sort.partition Sort.ltInt d a b pivot).1, .bool (Sort.partition Sort.ltInt d a b pivot).2.1]) ∧ Rw blk off w w' (Sort.partition Sort.ltInt d a b pivot).2.2 := by
  have R0 := Rw.refl hH
  obtain ⟨F, HF, hcw, hfw⟩ := R0.fam hn
  have hsw := R0.swap (i := a) (j := pivot) (by omega) (by omega) (x := .int .u64 (F pivot)) (y := .int .u64 (F a)) (by rw [HF.out]) (by rw [HF.out])
  obtain ⟨v', hy'⟩ := cell?_setCell_some (w := w) (p := ⟨blk, off + a, none⟩) (x := .int .u64 (F pivot)) (q := ⟨blk, off + pivot, none⟩) (hcw pivot (by omega))
  have hla : a < n := by omega
  have hlp : pivot < n := by omega
  have hS : Aside (Rw blk off w ((w.setCell ⟨blk, off + a, none⟩ (.int .u64 (F pivot))).setCell ⟨blk, off + pivot, none⟩ (.int .u64 (F a))) (Sort.swp d a pivot)) := hsw
  obtain ⟨dk, hdk⟩ : ∃ dk, dk = Sort.swp d a pivot := ⟨_, rfl⟩
  have hsk : Aside (dk.size = n) := by rw [hdk]; exact (Sort.size_swp _ _ _).trans hn
  rw [← hdk] at hS
  obtain ⟨i, hi⟩ : ∃ i, i = a + 1 := ⟨_, rfl⟩
  obtain ⟨j, hj⟩ : ∃ j, j = b - 1 := ⟨_, rfl⟩
  have ei : ((a : Int) + 1) = (i : Int) := by omega
  have ej : ((b : Int) - 1) = (j : Int) := by omega
  have hij : i ≤ j + 1 := by omega
  have hai : a < i := by omega
  have hjb : j < b := by omega
  obtain ⟨i2, hi2⟩ : ∃ i2, i2 = Sort.scanUp (fun x => Sort.ltInt x dk[a]!) dk j i := ⟨_, rfl⟩
  obtain ⟨j2, hj2⟩ : ∃ j2, j2 = Sort.scanDown (fun x => !Sort.ltInt x dk[a]!) dk i2 j := ⟨_, rfl⟩
  obtain ⟨f1, hi2j, f3, f4, f5⟩ := scans64 (fun x => rfl) (by omega) hij hi2 hj2
  have HI2 : Aside (i2 = Sort.scanUp (fun x => Sort.ltInt x dk[a]!) dk j i) := hi2
  have HJ2 : Aside (j2 = Sort.scanDown (fun x => !Sort.ltInt x dk[a]!) dk i2 j) := hj2
  replace f5 := Lib.hid f5
  clear hi2 hj2
  have EP : Aside (Sort.partition Sort.ltInt d a b pivot = if i2 > j2 then (j2, true, Sort.swp dk j2 a) else ((Sort.partLoop Sort.ltInt a (i2 + 1) (j2 - 1) (Sort.swp dk i2 j2)).1, false, Sort.swp (Sort.partLoop Sort.ltInt a (i2 + 1) (j2 - 1) (Sort.swp dk i2 j2)).2 (Sort.partLoop Sort.ltInt a (i2 + 1) (j2 - 1) (Sort.swp dk i2 j2)).1 a)) := by
    show _ = _
    unfold Sort.partition
    simp only []
    rw [← hdk, ← hi, ← hj, ← HI2.out, ← HJ2.out]
  clear hH R0 hsw hn hdk hi hj
  go_enter Try.func43, Try.ntmps43
  go_upto_region 1 with fail
  go_region
  clear hcw hfw HF
  go_upto_block 0 with fail
  generalize hW : World.drew _ = W at *
  have HR : Aside (Rw blk off w W dk) := by rw [← hW]; exact hS.out.drew
  clear hW hS ei ej
  obtain ⟨G, HG, hcw, hfw⟩ := HR.out.fam hsk.out
  go_upto_block 0 with fail
  go_cut [10] from 12 to 62 (fun s9 wx => s9 = .int .i64 i2 ∧ Aside (Rw blk off w wx dk))
  case first =>
    go_wp2_with fail
    go_loopg [10] (j + 1 - i) (fun k s9 wx => ∃ x : Nat, s9 = .int .i64 x ∧ i ≤ x ∧ x ≤ j + 1 ∧ j + 1 - x ≤ k ∧ Aside (Rw blk off w wx dk) ∧ Aside (Sort.scanUp (fun x => Sort.ltInt x dk[a]!) dk j x = i2))
    case atStart => exact ⟨i, rfl, Nat.le_refl _, hij, Nat.le_refl _, HR, HI2.out.symm⟩
    case round =>
      obtain ⟨x, rfl, hix, hxj, hk3, HRx, HX⟩ := hrel
      clear hcw hfw
      obtain ⟨hcw, hfw⟩ := HRx.out.famG hsk.out HG.out
      by_cases hle : x ≤ j
      · go_wp2_with fail
        go_big_quiet (first | (go_at_call 41; refine Calls.quiet_of_same (less64 _ _ _)))
        go_wp2_with fail
        · have ht : Sort.ltInt (G x) (G a) = true := by assumption
          go_roundg (j + 1 - (x + 1))
          case measure => omega
          case rel => exact ⟨x + 1, by go_num, by omega, by omega, Nat.le_refl _, HRx.out.drewN _, (up_go (p := fun x => Sort.ltInt x dk[a]!) hle (by rw [← HG.out a, ← HG.out x]; exact ht)).trans HX.out⟩
        · have ht : Sort.ltInt (G x) (G a) = false := by assumption
          go_meet
          case rel => exact ⟨congrArg (fun q : Nat => Value.int .i64 q) ((up_end (p := fun x => Sort.ltInt x dk[a]!) (Or.inr (by rw [← HG.out a, ← HG.out x]; exact ht))).symm.trans HX.out), HRx.out.drewN _⟩
      · have hle2 : decide ((x : Int) ≤ (j : Int)) = false := decide_eq_false (by omega)
        go_wp2_with fail
        go_big_quiet (first | (go_at_call 41; refine Calls.quiet_of_same (less64 _ _ _)))
        go_wp2_with fail
        go_meet
        case rel => exact ⟨congrArg (fun q : Nat => Value.int .i64 q) ((up_end (p := fun x => Sort.ltInt x dk[a]!) (Or.inl hle)).symm.trans HX.out), HRx.out.drewN _⟩
  case rest =>
    obtain ⟨rfl, HR2⟩ := hcut
    clear hcw hfw
    go_upto_block 2 with fail
    go_cut [11] from 12 to 62 (fun s10 wx => s10 = .int .i64 j2 ∧ Aside (Rw blk off w wx dk))
    case first =>
      go_wp2_with fail
      go_loopg [11] (j + 1) (fun k s10 wx => ∃ y : Nat, s10 = .int .i64 y ∧ y ≤ j ∧ i2 ≤ y + 1 ∧ y ≤ k ∧ Aside (Rw blk off w wx dk) ∧ Aside (Sort.scanDown (fun x => !Sort.ltInt x dk[a]!) dk i2 y = j2))
      case atStart => exact ⟨j, rfl, Nat.le_refl _, hi2j, by omega, HR2, HJ2.out.symm⟩
      case round =>
        obtain ⟨y, rfl, hyj, hiy, hk3, HRx, HX⟩ := hrel
        obtain ⟨hcw, hfw⟩ := HRx.out.famG hsk.out HG.out
        by_cases hle : i2 ≤ y
        · go_wp2_with fail
          go_big_quiet (first | (go_at_call 41; refine Calls.quiet_of_same (less64 _ _ _)))
          go_wp2_with fail
          · have ht : (!Sort.ltInt (G y) (G a)) = true := by assumption
            go_roundg (y - 1)
            case measure => omega
            case rel => exact ⟨y - 1, by congr 1; omega, by omega, by omega, Nat.le_refl _, HRx.out.drewN _, (down_go (p := fun x => !Sort.ltInt x dk[a]!) hle (by omega) (by rw [← HG.out a, ← HG.out y]; exact ht)).trans HX.out⟩
          · have ht : (!Sort.ltInt (G y) (G a)) = false := by assumption
            go_meet
            case rel => exact ⟨congrArg (fun q : Nat => Value.int .i64 q) ((down_end (p := fun x => !Sort.ltInt x dk[a]!) (Or.inr (by rw [← HG.out a, ← HG.out y]; exact ht))).symm.trans HX.out), HRx.out.drewN _⟩
        · have hle2 : decide ((i2 : Int) ≤ (y : Int)) = false := decide_eq_false (by omega)
          go_wp2_with fail
          go_big_quiet (first | (go_at_call 41; refine Calls.quiet_of_same (less64 _ _ _)))
          go_wp2_with fail
          go_meet
          case rel => exact ⟨congrArg (fun q : Nat => Value.int .i64 q) ((down_end (p := fun x => !Sort.ltInt x dk[a]!) (Or.inl hle)).symm.trans HX.out), HRx.out.drewN _⟩
    case rest =>
      obtain ⟨rfl, HR3⟩ := hcut
      obtain ⟨hcw, hfw⟩ := HR3.out.famG hsk.out HG.out
      by_cases hgt : i2 > j2
      · have hgz : (j2 : Int) < (i2 : Int) := by omega
        have hla : a < n := by omega
        have hlj : j2 < n := by omega
        obtain ⟨v3, hy3⟩ := cell?_setCell_some (p := ⟨blk, off + j2, none⟩) (x := .int .u64 (G a)) (q := ⟨blk, off + a, none⟩) (hcw a (by omega))
        go_wp2_with fail
        go_region
        all_goals go_wp2_with fail
        all_goals
          go_ret2
          have e := EP.out
          rw [if_pos hgt] at e
          rw [e]
          refine ⟨rfl, ?_⟩
          first
            | exact (HR3.out.swap (by rw [hsk.out]; omega) (by rw [hsk.out]; omega) (by rw [← HG.out]) (by rw [← HG.out])).drew
            | exact HR3.out.drew.swap (by rw [hsk.out]; omega) (by rw [hsk.out]; omega) (by rw [← HG.out]) (by rw [← HG.out])
      · have hlt := f5.out (by omega)
        have hgz : ¬ (j2 : Int) < (i2 : Int) := by omega
        have hP := HR3.out.swap (i := i2) (j := j2) (by rw [hsk.out]; omega) (by rw [hsk.out]; omega) (x := .int .u64 (G j2)) (y := .int .u64 (G i2)) (by rw [← HG.out]) (by rw [← HG.out])
        obtain ⟨R, hR⟩ : ∃ R, R = Sort.partLoop Sort.ltInt a (i2 + 1) (j2 - 1) (Sort.swp dk i2 j2) := ⟨_, rfl⟩
        have EQ : Aside (Sort.partition Sort.ltInt d a b pivot = (R.1, false, Sort.swp R.2 R.1 a)) := by
          have e := EP.out
          rw [if_neg hgt, ← hR] at e
          exact e
        have hR' : Aside (Sort.partLoop Sort.ltInt a (i2 + 1) (j2 - 1) (Sort.swp dk i2 j2) = R) := hR.symm
        have hsP : Aside ((Sort.swp dk i2 j2).size = n) := (Sort.size_swp _ _ _).trans hsk.out
        replace hP := Lib.hid hP
        clear EP hR
        go_wp2_with fail
        go_region
        go_wp2_with fail
        go_loopg [10, 11] (b + 1) (fun k s9 s10 wr => ∃ (i j : Nat) (dk : Array Int), s9 = .int .i64 i ∧ s10 = .int .i64 j ∧ a < i ∧ i ≤ j + 1 ∧ j < b ∧ j + 1 - i < k ∧ Aside (dk.size = n) ∧ Aside (Rw blk off w wr dk) ∧ Aside (Sort.partLoop Sort.ltInt a i j dk = R))
        case atStart => exact ⟨i2 + 1, j2 - 1, _, by go_num, by congr 1; omega, by omega, by omega, by omega, by omega, hsP, by first | exact hP.out.drew | exact hP.out, hR'⟩
        case round =>
          clear hcw hfw HG HI2 HJ2 hP hR' hsP f1 hi2j f3 f4 f5 hgt hgz hlt HR3 HR2 HR hsk hij hai hjb
          obtain ⟨i, j, dk, rfl, rfl, hai, hij, hjb, hk, hsk, HR, HO⟩ := hrel
          obtain ⟨G, HG, hcw, hfw⟩ := HR.out.fam hsk.out
          obtain ⟨i2, hi2⟩ : ∃ i2, i2 = Sort.scanUp (fun x => Sort.ltInt x dk[a]!) dk j i := ⟨_, rfl⟩
          obtain ⟨j2, hj2⟩ : ∃ j2, j2 = Sort.scanDown (fun x => !Sort.ltInt x dk[a]!) dk i2 j := ⟨_, rfl⟩
          obtain ⟨f1, hi2j, f3, f4, f5⟩ := scans64 (fun x => rfl) (by omega) hij hi2 hj2
          have HI2 : Aside (i2 = Sort.scanUp (fun x => Sort.ltInt x dk[a]!) dk j i) := hi2
          have HJ2 : Aside (j2 = Sort.scanDown (fun x => !Sort.ltInt x dk[a]!) dk i2 j) := hj2
          replace f5 := Lib.hid f5
          clear hi2 hj2
          go_upto_block 6 with fail
          go_cut [10] from 99 to 152 (fun s9 wx => s9 = .int .i64 i2 ∧ Aside (Rw blk off w wx dk))
          case first =>
            go_wp2_with fail
            go_loopg [10] (j + 1 - i) (fun k s9 wx => ∃ x : Nat, s9 = .int .i64 x ∧ i ≤ x ∧ x ≤ j + 1 ∧ j + 1 - x ≤ k ∧ Aside (Rw blk off w wx dk) ∧ Aside (Sort.scanUp (fun x => Sort.ltInt x dk[a]!) dk j x = i2))
            case atStart => exact ⟨i, rfl, Nat.le_refl _, hij, Nat.le_refl _, HR, HI2.out.symm⟩
            case round =>
              obtain ⟨x, rfl, hix, hxj, hk3, HRx, HX⟩ := hrel
              clear hcw hfw
              obtain ⟨hcw, hfw⟩ := HRx.out.famG hsk.out HG.out
              by_cases hle : x ≤ j
              · go_wp2_with fail
                go_big_quiet (first | (go_at_call 41; refine Calls.quiet_of_same (less64 _ _ _)))
                go_wp2_with fail
                · have ht : Sort.ltInt (G x) (G a) = true := by assumption
                  go_roundg (j + 1 - (x + 1))
                  case measure => omega
                  case rel => exact ⟨x + 1, by go_num, by omega, by omega, Nat.le_refl _, HRx.out.drewN _, (up_go (p := fun x => Sort.ltInt x dk[a]!) hle (by rw [← HG.out a, ← HG.out x]; exact ht)).trans HX.out⟩
                · have ht : Sort.ltInt (G x) (G a) = false := by assumption
                  go_meet
                  case rel => exact ⟨congrArg (fun q : Nat => Value.int .i64 q) ((up_end (p := fun x => Sort.ltInt x dk[a]!) (Or.inr (by rw [← HG.out a, ← HG.out x]; exact ht))).symm.trans HX.out), HRx.out.drewN _⟩
              · have hle2 : decide ((x : Int) ≤ (j : Int)) = false := decide_eq_false (by omega)
                go_wp2_with fail
                go_big_quiet (first | (go_at_call 41; refine Calls.quiet_of_same (less64 _ _ _)))
                go_wp2_with fail
                go_meet
                case rel => exact ⟨congrArg (fun q : Nat => Value.int .i64 q) ((up_end (p := fun x => Sort.ltInt x dk[a]!) (Or.inl hle)).symm.trans HX.out), HRx.out.drewN _⟩
          case rest =>
            obtain ⟨rfl, HR2⟩ := hcut
            clear hcw hfw
            go_upto_block 8 with fail
            go_cut [11] from 99 to 152 (fun s10 wx => s10 = .int .i64 j2 ∧ Aside (Rw blk off w wx dk))
            case first =>
              go_wp2_with fail
              go_loopg [11] (j + 1) (fun k s10 wx => ∃ y : Nat, s10 = .int .i64 y ∧ y ≤ j ∧ i2 ≤ y + 1 ∧ y ≤ k ∧ Aside (Rw blk off w wx dk) ∧ Aside (Sort.scanDown (fun x => !Sort.ltInt x dk[a]!) dk i2 y = j2))
              case atStart => exact ⟨j, rfl, Nat.le_refl _, hi2j, by omega, HR2, HJ2.out.symm⟩
              case round =>
                obtain ⟨y, rfl, hyj, hiy, hk3, HRx, HX⟩ := hrel
                obtain ⟨hcw, hfw⟩ := HRx.out.famG hsk.out HG.out
                by_cases hle : i2 ≤ y
                · go_wp2_with fail
                  go_big_quiet (first | (go_at_call 41; refine Calls.quiet_of_same (less64 _ _ _)))
                  go_wp2_with fail
                  · have ht : (!Sort.ltInt (G y) (G a)) = true := by assumption
                    go_roundg (y - 1)
                    case measure => omega
                    case rel => exact ⟨y - 1, by congr 1; omega, by omega, by omega, Nat.le_refl _, HRx.out.drewN _, (down_go (p := fun x => !Sort.ltInt x dk[a]!) hle (by omega) (by rw [← HG.out a, ← HG.out y]; exact ht)).trans HX.out⟩
                  · have ht : (!Sort.ltInt (G y) (G a)) = false := by assumption
                    go_meet
                    case rel => exact ⟨congrArg (fun q : Nat => Value.int .i64 q) ((down_end (p := fun x => !Sort.ltInt x dk[a]!) (Or.inr (by rw [← HG.out a, ← HG.out y]; exact ht))).symm.trans HX.out), HRx.out.drewN _⟩
                · have hle2 : decide ((i2 : Int) ≤ (y : Int)) = false := decide_eq_false (by omega)
                  go_wp2_with fail
                  go_big_quiet (first | (go_at_call 41; refine Calls.quiet_of_same (less64 _ _ _)))
                  go_wp2_with fail
                  go_meet
                  case rel => exact ⟨congrArg (fun q : Nat => Value.int .i64 q) ((down_end (p := fun x => !Sort.ltInt x dk[a]!) (Or.inl hle)).symm.trans HX.out), HRx.out.drewN _⟩
            case rest =>
              obtain ⟨rfl, HR3⟩ := hcut
              obtain ⟨hcw, hfw⟩ := HR3.out.famG hsk.out HG.out
              have E : Aside (Sort.partLoop Sort.ltInt a i j dk = if i2 > j2 then (j2, dk) else Sort.partLoop Sort.ltInt a (i2 + 1) (j2 - 1) (Sort.swp dk i2 j2)) := by
                show _ = _
                rw [Sort.partLoop_eq, ← HI2.out, ← HJ2.out]
              by_cases hgt : i2 > j2
              · have hgz : (j2 : Int) < (i2 : Int) := by omega
                have hla : a < n := by omega
                have hlj : j2 < n := by omega
                obtain ⟨v3, hy3⟩ := cell?_setCell_some (p := ⟨blk, off + j2, none⟩) (x := .int .u64 (G a)) (q := ⟨blk, off + a, none⟩) (hcw a (by omega))
                go_wp2_with fail
                go_region
                all_goals go_wp2_with fail
                all_goals
                  go_ret2
                  have e := EQ.out
                  rw [← HO.out, E.out, if_pos hgt] at e
                  rw [e]
                  refine ⟨rfl, ?_⟩
                  first
                    | exact (HR3.out.swap (by rw [hsk.out]; omega) (by rw [hsk.out]; omega) (by rw [← HG.out]) (by rw [← HG.out])).drew
                    | exact HR3.out.drew.swap (by rw [hsk.out]; omega) (by rw [hsk.out]; omega) (by rw [← HG.out]) (by rw [← HG.out])
              · have hlt := f5.out (by omega)
                have hgz : ¬ (j2 : Int) < (i2 : Int) := by omega
                go_wp2_with fail
                go_region
                go_wp2_with fail
                go_roundg (j2 - 1 + 1 - (i2 + 1) + 1)
                case measure => omega
                case rel =>
                  refine ⟨i2 + 1, j2 - 1, Sort.swp dk i2 j2, by go_num, by congr 1; omega, by omega, by omega, by omega, by omega, (Sort.size_swp _ _ _).trans hsk.out, ?_, ?_⟩
                  · first
                      | exact (HR3.out.swap (by rw [hsk.out]; omega) (by rw [hsk.out]; omega) (by rw [← HG.out]) (by rw [← HG.out])).drew
                      | exact HR3.out.drew.swap (by rw [hsk.out]; omega) (by rw [hsk.out]; omega) (by rw [← HG.out]) (by rw [← HG.out])
                  · show _ = _
                    rw [← HO.out, E.out, if_neg hgt]
end Go.Proofs.Ytjbmmgclkhigiaa
