/- The library's sort at uint64: siftDownOrdered, heapSortOrdered. -/
import Derived.Test.YtjbmmgclkhigiaaU0
set_option linter.unusedSimpArgs false
set_option linter.unusedVariables false
namespace Go.Proofs.Ytjbmmgclkhigiaa
open Go.RowKit

set_option maxHeartbeats 8000000 in
set_option maxRecDepth 1000000 in
theorem sift64 (blk off cap lo hi first n : Nat) (d : Array Int) (hn : d.size = n) (w : World) (hH : Sort.Holds eU w blk off d) (hlo : lo ≤ hi) (hb : first + hi ≤ n) (hsz : n < 4611686018427387904) :
    Calls Try.prog 46 #[.slice (some ⟨blk, off, none⟩) n cap, .int .i64 lo, .int .i64 hi, .int .i64 first] w fun e w' => e = .returned (.tuple #[]) ∧ Rw blk off w w' (Sort.siftDown Sort.ltInt hi first lo d) := by
  have R0 : Aside (Rw blk off w w d) := Rw.refl hH
  have hn' : Aside (d.size = n) := hn
  clear hH hn
  go_enter Try.func46, Try.ntmps46
  go_wp2_with fail
  go_loopg [8] (hi - lo) (fun k s8 wr => ∃ (r : Nat) (dk : Array Int), s8 = .int .i64 r ∧ r ≤ hi ∧ hi - r ≤ k ∧ Aside (dk.size = n) ∧ Aside (Rw blk off w wr dk) ∧ Aside (Sort.siftDown Sort.ltInt hi first r dk = Sort.siftDown Sort.ltInt hi first lo d))
  case atStart => exact ⟨lo, d, rfl, hlo, Nat.le_refl _, hn', R0, rfl⟩
  case round =>
    obtain ⟨r, dk, rfl, hr, hk, hsk, HR, HO⟩ := hrel
    obtain ⟨G, HG, hcw, hfw⟩ := HR.out.fam hsk.out
    by_cases h0 : hi ≤ 2 * r + 1
    · have h0z : (hi : Int) ≤ 2 * (r : Int) + 1 := by omega
      go_wp2_with fail
      go_end0
      refine ⟨rfl, ?_⟩
      have e : Sort.siftDown Sort.ltInt hi first lo d = dk := by rw [← HO.out, sift_end Sort.ltInt h0]
      rw [e]
      exact HR.out
    · have h0z : ¬ ((hi : Int) ≤ 2 * (r : Int) + 1) := by omega
      obtain ⟨c, hc⟩ : ∃ c, bigChild Sort.ltInt hi first r dk = c := ⟨_, rfl⟩
      have hcl := bigChild_lt Sort.ltInt (F := first) (d := dk) (show 2 * r + 1 < hi by omega)
      rw [hc] at hcl
      obtain ⟨hc1, hc2⟩ := hcl
      obtain ⟨tb, htb⟩ : ∃ tb : Bool, tb = (decide (2 * r + 2 < hi) && Sort.ltInt (G (first + 2 * r + 1)) (G (first + 2 * r + 2))) := ⟨_, rfl⟩
      have hct : c = if tb = true then 2 * r + 2 else 2 * r + 1 := by
        rw [← hc, htb]
        unfold bigChild
        rw [← HG.out, ← HG.out, show first + (2 * r + 1) = first + 2 * r + 1 by omega, show first + (2 * r + 2) = first + 2 * r + 2 by omega]
        simp
      have HC : Aside (bigChild Sort.ltInt hi first r dk = c) := hc
      have HT : Aside (tb = (decide (2 * r + 2 < hi) && Sort.ltInt (G (first + 2 * r + 1)) (G (first + 2 * r + 2)))) := htb
      have HCT : Aside (c = if tb = true then 2 * r + 2 else 2 * r + 1) := hct
      clear hc htb hct
      go_upto_region 3 with fail
      go_cut [36] from 11 to 75 (fun s36 wx => s36 = .bool tb ∧ Aside (Rw blk off w wx dk))
      case first =>
        by_cases h1 : 2 * r + 2 < hi
        · have h1z : 2 * (r : Int) + 1 + 1 < (hi : Int) := by omega
          go_big_quiet (first | (go_at_call 41; refine Calls.quiet_of_same (less64 _ _ _)))
          go_wp2_with fail
          go_meet
          case rel => exact ⟨by rw [HT.out]; simp [h1], HR.out.drewN _⟩
        · have h1z : decide (2 * (r : Int) + 1 + 1 < (hi : Int)) = false := decide_eq_false (by omega)
          go_big_quiet (first | (go_at_call 41; refine Calls.quiet_of_same (less64 _ _ _)))
          go_wp2_with fail
          go_meet
          case rel => exact ⟨by rw [HT.out]; simp [h1], HR.out.drewN _⟩
      case rest =>
        obtain ⟨rfl, HR2⟩ := hcut
        clear hcw hfw
        go_upto_if 36 with fail
        go_cut [9] from 11 to 75 (fun s9 wx => s9 = .int .i64 c ∧ Aside (Rw blk off w wx dk))
        case first =>
          cases tb
          · have e : c = 2 * r + 1 := by have := HCT.out; simpa using this
            go_wp2_with fail
            go_meet
            case rel => exact ⟨by congr 1; omega, HR2⟩
          · have e : c = 2 * r + 2 := by have := HCT.out; simpa using this
            replace e := Lib.hid e
            go_wp2_with fail
            go_meet
            case rel => exact ⟨by have := e.out; congr 1; omega, HR2⟩
        case rest =>
          obtain ⟨rfl, HR3⟩ := hcut
          obtain ⟨hcw, hfw⟩ := HR3.out.famG hsk.out HG.out
          go_wp2_with fail
          go_big_quiet (first | (go_at_call 41; refine Calls.quiet_of_same (less64 _ _ _)))
          go_wp2_with fail
          · have hS : Sort.ltInt (G (first + r)) (G (first + c)) = false := by
              have : (!Sort.ltInt (G (first + r)) (G (first + c))) = true := by assumption
              simpa using this
            (try simp only [Exit.inBlock, Exit.then]); refine bodyPost_ret (results_none rfl _ _ _) rfl ?_
            refine ⟨rfl, ?_⟩
            have e : Sort.siftDown Sort.ltInt hi first lo d = dk := by rw [← HO.out, sift_stop Sort.ltInt (by omega) HC.out (by rw [← HG.out, ← HG.out]; exact hS)]
            rw [e]
            exact HR3.out.drewN _
          · have hS : Sort.ltInt (G (first + r)) (G (first + c)) = true := by
              have : (!Sort.ltInt (G (first + r)) (G (first + c))) = false := by assumption
              simpa using this
            generalize hW : World.drewN _ _ = W at *
            have HR4 : Aside (Rw blk off w W dk) := by rw [← hW]; exact HR3.out.drewN _
            obtain ⟨hcw, hfw⟩ := HR4.out.famG hsk.out HG.out
            clear hW
            go_region
            go_wp2_with fail
            go_roundg (hi - c)
            case measure => omega
            case rel =>
              refine ⟨c, Sort.swp dk (first + r) (first + c), rfl, by omega, Nat.le_refl _, (Sort.size_swp _ _ _).trans hsk.out, ?_, ?_⟩
              · first
                  | exact (HR4.out.swap (by rw [hsk.out]; omega) (by rw [hsk.out]; omega) (by rw [← HG.out]) (by rw [← HG.out])).drew
                  | exact HR4.out.drew.swap (by rw [hsk.out]; omega) (by rw [hsk.out]; omega) (by rw [← HG.out]) (by rw [← HG.out])
              · exact (sift_go Sort.ltInt (by omega) HC.out (by rw [← HG.out, ← HG.out]; exact hS)).trans HO.out

/-- '(hi - 1) / 2' rounds toward zero. -/
theorem half64 {a b : Nat} (hab : a ≤ b) : ((b : Int) - (a : Int) - 1).tdiv 2 = (((b - a - 1) / 2 + 1 : Nat) : Int) - 1 := by
  by_cases h : a = b
  · subst h
    rw [show (a : Int) - (a : Int) - 1 = -1 by omega]
    simp
  · rw [Int.tdiv_eq_ediv_of_nonneg (by omega)]
    omega
set_option maxHeartbeats 8000000 in
set_option maxRecDepth 1000000 in
theorem heap64 (blk off cap a b n : Nat) (d : Array Int) (hn : d.size = n) (w : World) (hH : Sort.Holds eU w blk off d) (hab : a ≤ b) (hb : b ≤ n) (hsz : n < 4611686018427387904) :
    Calls Try.prog 36 #[.slice (some ⟨blk, off, none⟩) n cap, .int .i64 a, .int .i64 b] w fun e w' => e = .returned (.tuple #[]) ∧ Rw blk off w w' (Sort.heapSort Sort.ltInt d a b) := by
  have R0 : Aside (Rw blk off w w d) := Rw.refl hH
  have hn' : Aside (d.size = n) := hn
  obtain ⟨L, hL⟩ : ∃ L, b = a + L := ⟨b - a, by omega⟩
  subst hL
  have eba : a + L - a = L := by omega
  have ez : ((a + L : Nat) : Int) - (a : Int) = (L : Int) := by omega
  have eh := half64 (a := a) (b := a + L) (by omega)
  rw [ez, eba] at eh
  have HE : Aside (((L : Int) - 1).tdiv 2 = (((L - 1) / 2 + 1 : Nat) : Int) - 1) := eh
  have HX : Aside (Sort.heapSort Sort.ltInt d a (a + L) = Sort.heapPop Sort.ltInt a L (Sort.heapBuild Sort.ltInt L a ((L - 1) / 2 + 1) d)) := by show _ = _; unfold Sort.heapSort; rw [eba]
  have ez2 : ((a : Int) + (L : Int) - (a : Int)) = (L : Int) := by omega
  clear hH hn eh eba ez
  go_enter Try.func36, Try.ntmps36
  go_wp2_with fail
  go_loopg [9] ((L - 1) / 2 + 1) (fun k s9 wr => s9 = .int .i64 ((k : Int) - 1) ∧ k ≤ (L - 1) / 2 + 1 ∧ ∃ dk : Array Int, Aside (dk.size = n) ∧ Aside (Rw blk off w wr dk) ∧ Aside (Sort.heapBuild Sort.ltInt L a k dk = Sort.heapBuild Sort.ltInt L a ((L - 1) / 2 + 1) d))
  case atStart => exact ⟨by first | exact congrArg (Value.int .i64) HE.out | (rw [HE.out]), Nat.le_refl _, d, hn', R0, rfl⟩
  case round =>
    obtain ⟨rfl, hkk, dk, hsk, HR, HB⟩ := hrel
    cases gk with
    | succ k =>
      have hc := sift64 blk off cap k L a n dk hsk.out wr HR.out.row (by omega) hb hsz
      replace hc := Lib.hid hc
      go_wp2_with (go_at_call 46; refine hc.out.mono ?_; rintro e w1 ⟨rfl, hR1⟩; replace hR1 := Lib.hid hR1)
      go_roundg k
      case measure => omega
      case rel => exact ⟨by congr 1, by omega, _, (sift_size Sort.ltInt _ _ _ _ _ (Nat.le_refl _)).trans hsk.out, HR.out.trans hR1.out, HB⟩
    | zero =>
      have hB : Aside (dk = Sort.heapBuild Sort.ltInt L a ((L - 1) / 2 + 1) d) := HB.out
      clear HB
      go_wp2_with fail
      go_loopg [10] L (fun k s10 wr2 => s10 = .int .i64 ((k : Int) - 1) ∧ k ≤ L ∧ ∃ dj : Array Int, Aside (dj.size = n) ∧ Aside (Rw blk off w wr2 dj) ∧ Aside (Sort.heapPop Sort.ltInt a k dj = Sort.heapPop Sort.ltInt a L dk))
      case atStart => exact ⟨rfl, Nat.le_refl _, dk, hsk, HR, rfl⟩
      case round =>
        obtain ⟨rfl, hkk2, dj, hsj, HRj, HP⟩ := hrel
        cases gk with
        | zero =>
          go_wp2_with fail
          go_end0
          refine ⟨rfl, ?_⟩
          have e : Sort.heapSort Sort.ltInt d a (a + L) = dj := by rw [HX.out, ← hB.out, ← HP.out]; rfl
          rw [e]
          exact HRj.out
        | succ k =>
          obtain ⟨G, HG, hcw, hfw⟩ := HRj.out.fam hsj.out
          have hc : Hid (∀ W, Aside (Rw blk off w W (Sort.swp dj a (a + k))) → Calls Try.prog 46 #[.slice (some ⟨blk, off, none⟩) n cap, .int .i64 (0 : Nat), .int .i64 k, .int .i64 a] W fun e w' => e = .returned (.tuple #[]) ∧ Rw blk off W w' (Sort.siftDown Sort.ltInt k a 0 (Sort.swp dj a (a + k)))) := Lib.hid fun W hW =>
            sift64 blk off cap 0 k a n _ ((Sort.size_swp _ _ _).trans hsj.out) W hW.out.row (Nat.zero_le _) (by omega) hsz
          have fin : ∀ (W w1 : World), Aside (Rw blk off w W (Sort.swp dj a (a + k))) → Rw blk off W w1 (Sort.siftDown Sort.ltInt k a 0 (Sort.swp dj a (a + k))) → k ≤ L ∧ ∃ dj : Array Int, Aside (dj.size = n) ∧ Aside (Rw blk off w w1 dj) ∧ Aside (Sort.heapPop Sort.ltInt a k dj = Sort.heapPop Sort.ltInt a L dk) := fun W w1 h1 h2 =>
            ⟨by omega, _, (sift_size Sort.ltInt _ _ _ _ _ (Nat.le_refl _)).trans ((Sort.size_swp _ _ _).trans hsj.out), h1.out.trans h2, HP⟩
          replace fin := Lib.hid fin
          rcases Nat.eq_zero_or_pos k with hk0 | hkp
          · subst hk0
            go_wp2_with fail
            go_region
            go_wp2_with fail
            have hW := HRj.out.swap (i := a) (j := a + 0) (by rw [hsj.out]; omega) (by rw [hsj.out]; omega) (x := .int .u64 (G a)) (y := .int .u64 (G a)) (by rw [HG.out]; rfl) (by rw [HG.out])
            refine (hc.out _ (by first | exact hW.drew | exact hW)).mono ?_
            rintro e w1 ⟨rfl, hR1⟩
            replace hR1 := Lib.hid hR1
            go_wp2_with fail
            go_roundg 0
            case measure => omega
            case rel => exact ⟨by first | rfl | (congr 1), fin.out _ w1 (by first | exact hW.drew | exact hW) hR1.out⟩
          · go_wp2_with fail
            go_region
            go_wp2_with fail
            have hW := HRj.out.swap (i := a) (j := a + k) (by rw [hsj.out]; omega) (by rw [hsj.out]; omega) (x := .int .u64 (G (a + k))) (y := .int .u64 (G a)) (by rw [HG.out]) (by rw [HG.out])
            refine (hc.out _ (by first | exact hW.drew | exact hW)).mono ?_
            rintro e w1 ⟨rfl, hR1⟩
            replace hR1 := Lib.hid hR1
            go_wp2_with fail
            go_roundg k
            case measure => omega
            case rel => exact ⟨by first | rfl | (congr 1), fin.out _ w1 (by first | exact hW.drew | exact hW) hR1.out⟩
end Go.Proofs.Ytjbmmgclkhigiaa
