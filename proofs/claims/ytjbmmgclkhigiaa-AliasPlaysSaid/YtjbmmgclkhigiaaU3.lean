/- The library's sort at uint64: partitionEqualOrdered, partitionOrdered (printed by wip/tools/genu3.py). -/
import Derived.Test.YtjbmmgclkhigiaaU0
set_option linter.unusedSimpArgs false
set_option linter.unusedVariables false
namespace Go.Proofs.Ytjbmmgclkhigiaa
open Go.RowKit

section
variable {α : Type} [Inhabited α]
/-- What both scans come to. -/
theorem scans64 {p q : α → Bool} (hq : ∀ x, q x = !p x) {d : Array α} {i j i2 j2 : Nat} (h0 : 0 < i) (hij : i ≤ j + 1) (h1 : i2 = Sort.scanUp p d j i) (h2 : j2 = Sort.scanDown q d i2 j) :
    i ≤ i2 ∧ i2 ≤ j + 1 ∧ j2 ≤ j ∧ i2 ≤ j2 + 1 ∧ (i2 ≤ j2 → i2 < j2) := by
  obtain ⟨u1, u2, _, u4⟩ := Sort.scanUp_spec p d j _ i rfl
  rw [← h1] at u1 u2 u4
  obtain ⟨v1, v2, _, v4⟩ := Sort.scanDown_spec q d i2 j
  rw [← h2] at v1 v2 v4
  have hu := u2 hij
  refine ⟨u1, hu, v1, v2 hu, fun h => ?_⟩
  rcases Nat.lt_or_ge i2 j2 with h' | h'
  · exact h'
  · have e : j2 = i2 := by omega
    have f1 := u4 (by omega)
    have f2 := v4 h (by omega)
    rw [e, hq, f1] at f2
    cases f2
end

set_option maxHeartbeats 16000000 in
set_option maxRecDepth 1000000 in
theorem peq64 (blk off cap a b pivot n : Nat) (d : Array Int) (hn : d.size = n) (w : World) (hH : Sort.Holds eU w blk off d) (hap : a ≤ pivot) (hpb : pivot < b) (hb : b ≤ n) (hsz : n < 4611686018427387904) :
    Calls Try.prog 42 #[.slice (some ⟨blk, off, none⟩) n cap, .int .i64 a, .int .i64 b, .int .i64 pivot] w fun e w' =>
      e = .returned (.int .i64 (Sort.partitionEqual Sort.ltInt d a b pivot).1) ∧ Rw blk off w w' (Sort.partitionEqual Sort.ltInt d a b pivot).2 := by
  have R0 := Rw.refl hH
  obtain ⟨F, HF, hcw, hfw⟩ := R0.fam hn
  have hsw := R0.swap (i := a) (j := pivot) (by omega) (by omega) (x := .int .u64 (F pivot)) (y := .int .u64 (F a)) (by rw [HF.out]) (by rw [HF.out])
  obtain ⟨v', hy'⟩ := cell?_setCell_some (w := w) (p := ⟨blk, off + a, none⟩) (x := .int .u64 (F pivot)) (q := ⟨blk, off + pivot, none⟩) (hcw pivot (by omega))
  have hla : a < n := by omega
  have hlp : pivot < n := by omega
  have hS : Aside (Rw blk off w ((w.setCell ⟨blk, off + a, none⟩ (.int .u64 (F pivot))).setCell ⟨blk, off + pivot, none⟩ (.int .u64 (F a))) (Sort.swp d a pivot)) := hsw
  have hs0 : Aside ((Sort.swp d a pivot).size = n) := (Sort.size_swp _ _ _).trans hn
  clear hH R0 hsw hn
  go_enter Try.func42, Try.ntmps42
  go_wp2_with fail
  go_region
  go_wp2_with fail
  go_loopg [9, 10] (b + 1) (fun k s9 s10 wr => ∃ (i j : Nat) (dk : Array Int), s9 = .int .i64 i ∧ s10 = .int .i64 j ∧ a < i ∧ i ≤ j + 1 ∧ j < b ∧ j + 1 - i < k ∧ Aside (dk.size = n) ∧ Aside (Rw blk off w wr dk) ∧ Aside (Sort.partEqLoop Sort.ltInt a i j dk = Sort.partEqLoop Sort.ltInt a (a + 1) (b - 1) (Sort.swp d a pivot)))
  case atStart => exact ⟨a + 1, b - 1, _, by go_num, by congr 1; omega, by omega, by omega, by omega, by omega, hs0, by first | exact hS.out.drew | exact hS.out, rfl⟩
  case round =>
    obtain ⟨i, j, dk, rfl, rfl, hai, hij, hjb, hk, hsk, HR, HO⟩ := hrel
    clear hcw hfw HF hS hs0
    obtain ⟨G, HG, hcw, hfw⟩ := HR.out.fam hsk.out
    obtain ⟨i2, hi2⟩ : ∃ i2, i2 = Sort.scanUp (fun x => !Sort.ltInt dk[a]! x) dk j i := ⟨_, rfl⟩
    obtain ⟨j2, hj2⟩ : ∃ j2, j2 = Sort.scanDown (fun x => Sort.ltInt dk[a]! x) dk i2 j := ⟨_, rfl⟩
    obtain ⟨f1, hi2j, f3, f4, f5⟩ := scans64 (fun x => by simp) (by omega) hij hi2 hj2
    have HI2 : Aside (i2 = Sort.scanUp (fun x => !Sort.ltInt dk[a]! x) dk j i) := hi2
    have HJ2 : Aside (j2 = Sort.scanDown (fun x => Sort.ltInt dk[a]! x) dk i2 j) := hj2
    replace f5 := Lib.hid f5
    clear hi2 hj2
    go_upto_block 2 with fail
    go_cut [9] from 29 to 82 (fun s9 wx => s9 = .int .i64 i2 ∧ Aside (Rw blk off w wx dk))
    case first =>
      go_wp2_with fail
      go_loopg [9] (j + 1 - i) (fun k s9 wx => ∃ x : Nat, s9 = .int .i64 x ∧ i ≤ x ∧ x ≤ j + 1 ∧ j + 1 - x ≤ k ∧ Aside (Rw blk off w wx dk) ∧ Aside (Sort.scanUp (fun x => !Sort.ltInt dk[a]! x) dk j x = i2))
      case atStart => exact ⟨i, rfl, Nat.le_refl _, hij, Nat.le_refl _, HR, HI2.out.symm⟩
      case round =>
        obtain ⟨x, rfl, hix, hxj, hk3, HRx, HX⟩ := hrel
        clear hcw hfw
        obtain ⟨hcw, hfw⟩ := HRx.out.famG hsk.out HG.out
        by_cases hle : x ≤ j
        · go_wp2_with fail
          go_big_quiet (first | (go_at_call 41; refine Calls.quiet_of_same (less64 _ _ _)))
          go_wp2_with fail
          · have ht : (!Sort.ltInt (G a) (G x)) = true := by assumption
            go_roundg (j + 1 - (x + 1))
            case measure => omega
            case rel => exact ⟨x + 1, by go_num, by omega, by omega, Nat.le_refl _, HRx.out.drewN _, (up_go (p := fun x => !Sort.ltInt dk[a]! x) hle (by rw [← HG.out a, ← HG.out x]; exact ht)).trans HX.out⟩
          · have ht : (!Sort.ltInt (G a) (G x)) = false := by assumption
            go_meet
            case rel => exact ⟨congrArg (fun q : Nat => Value.int .i64 q) ((up_end (p := fun x => !Sort.ltInt dk[a]! x) (Or.inr (by rw [← HG.out a, ← HG.out x]; exact ht))).symm.trans HX.out), HRx.out.drewN _⟩
        · have hle2 : decide ((x : Int) ≤ (j : Int)) = false := decide_eq_false (by omega)
          go_wp2_with fail
          go_big_quiet (first | (go_at_call 41; refine Calls.quiet_of_same (less64 _ _ _)))
          go_wp2_with fail
          go_meet
          case rel => exact ⟨congrArg (fun q : Nat => Value.int .i64 q) ((up_end (p := fun x => !Sort.ltInt dk[a]! x) (Or.inl hle)).symm.trans HX.out), HRx.out.drewN _⟩
    case rest =>
      obtain ⟨rfl, HR2⟩ := hcut
      clear hcw hfw
      go_upto_block 4 with fail
      go_cut [10] from 29 to 82 (fun s10 wx => s10 = .int .i64 j2 ∧ Aside (Rw blk off w wx dk))
      case first =>
        go_wp2_with fail
        go_loopg [10] (j + 1) (fun k s10 wx => ∃ y : Nat, s10 = .int .i64 y ∧ y ≤ j ∧ i2 ≤ y + 1 ∧ y ≤ k ∧ Aside (Rw blk off w wx dk) ∧ Aside (Sort.scanDown (fun x => Sort.ltInt dk[a]! x) dk i2 y = j2))
        case atStart => exact ⟨j, rfl, Nat.le_refl _, hi2j, by omega, HR2, HJ2.out.symm⟩
        case round =>
          obtain ⟨y, rfl, hyj, hiy, hk3, HRx, HX⟩ := hrel
          obtain ⟨hcw, hfw⟩ := HRx.out.famG hsk.out HG.out
          by_cases hle : i2 ≤ y
          · go_wp2_with fail
            go_big_quiet (first | (go_at_call 41; refine Calls.quiet_of_same (less64 _ _ _)))
            go_wp2_with fail
            · have ht : Sort.ltInt (G a) (G y) = true := by assumption
              go_roundg (y - 1)
              case measure => omega
              case rel => exact ⟨y - 1, by congr 1; omega, by omega, by omega, Nat.le_refl _, HRx.out.drewN _, (down_go (p := fun x => Sort.ltInt dk[a]! x) hle (by omega) (by rw [← HG.out a, ← HG.out y]; exact ht)).trans HX.out⟩
            · have ht : Sort.ltInt (G a) (G y) = false := by assumption
              go_meet
              case rel => exact ⟨congrArg (fun q : Nat => Value.int .i64 q) ((down_end (p := fun x => Sort.ltInt dk[a]! x) (Or.inr (by rw [← HG.out a, ← HG.out y]; exact ht))).symm.trans HX.out), HRx.out.drewN _⟩
          · have hle2 : decide ((i2 : Int) ≤ (y : Int)) = false := decide_eq_false (by omega)
            go_wp2_with fail
            go_big_quiet (first | (go_at_call 41; refine Calls.quiet_of_same (less64 _ _ _)))
            go_wp2_with fail
            go_meet
            case rel => exact ⟨congrArg (fun q : Nat => Value.int .i64 q) ((down_end (p := fun x => Sort.ltInt dk[a]! x) (Or.inl hle)).symm.trans HX.out), HRx.out.drewN _⟩
      case rest =>
        obtain ⟨rfl, HR3⟩ := hcut
        obtain ⟨hcw, hfw⟩ := HR3.out.famG hsk.out HG.out
        have E : Aside (Sort.partEqLoop Sort.ltInt a i j dk = if i2 > j2 then (i2, dk) else Sort.partEqLoop Sort.ltInt a (i2 + 1) (j2 - 1) (Sort.swp dk i2 j2)) := by
          show _ = _
          rw [Sort.partEqLoop_eq, ← HI2.out, ← HJ2.out]
        by_cases hgt : i2 > j2
        · have hgz : (j2 : Int) < (i2 : Int) := by omega
          go_wp2_with fail
          go_ret
          have e : Sort.partitionEqual Sort.ltInt d a b pivot = (i2, dk) := by
            unfold Sort.partitionEqual
            rw [← HO.out, E.out, if_pos hgt]
          rw [e]
          exact ⟨rfl, HR3.out⟩
        · have hlt := f5.out (by omega)
          have hgz : ¬ (j2 : Int) < (i2 : Int) := by omega
          go_wp2_with fail
          go_region
          go_wp2_with fail
          go_roundg (j2 - 1 + 1 - (i2 + 1) + 1)
          case measure => omega
          case rel =>
            refine ⟨i2 + 1, j2 - 1, Sort.swp dk i2 j2, by go_num, by congr 1; omega, by omega, by omega, by omega, by omega, (Sort.size_swp _ _ _).trans hsk.out, ?_, ?_⟩
            · first
                | exact (HR3.out.swap (by rw [hsk.out]; omega) (by rw [hsk.out]; omega) (by rw [← HG.out]) (by rw [← HG.out])).drew
                | exact HR3.out.drew.swap (by rw [hsk.out]; omega) (by rw [hsk.out]; omega) (by rw [← HG.out]) (by rw [← HG.out])
            · show _ = _
              rw [← HO.out, E.out, if_neg hgt]
end Go.Proofs.Ytjbmmgclkhigiaa
