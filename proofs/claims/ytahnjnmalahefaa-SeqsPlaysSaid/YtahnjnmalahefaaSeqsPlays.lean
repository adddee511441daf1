/- SeqsPlays: program and reference agree, whatever numbers come. -/
import Derived.Test.YtahnjnmalahefaaSeqsAwake
import Derived.Test.YtahnjnmalahefaaSeqsRef
import Derived.Test.YtahnjnmalahefaaArgs
import Derived.Deep.RegionWith
namespace Go.Proofs.Ytahnjnmalahefaa
open Go.RowKit
set_option maxRecDepth 100000 in
set_option maxHeartbeats 4000000 in
theorem plays_walk (a0 : Option Addr) (n0 c0 : Nat) (z0 : Nat → Int) (a1 : Option Addr) (n1 c1 : Nat) (z1 : Nat → Int) (w : World) (h0 : IntRow .u8 w a0 n0 z0) (h1 : IntRow .i64 w a1 n1 z1) :
    Calls Try.prog 5 #[.slice a0 n0 c0, .slice a1 n1 c1] w fun e w' => e = .returned (.bool true) ∧ Below w.heap.size w w' := by
  obtain ⟨hl0, h0⟩ := h0
  obtain ⟨hl1, h1⟩ := h1
  go_enter Try.func5, Try.ntmps5
  go_wp2_with fail
  refine (new_any _).mono ?_
  rintro e w1 ⟨b, rfl, hH, hb, hO⟩
  have hbl := lt_of_heap hH.1
  have hS1 := hO.size
  have hN : RefAt (w1.alloc (.cells #[.int .i64 (-1)] 38)) w1.heap.size (vOf 0 false) := heap_alloc_new _ _
  have hH := hH.own ((Own.refl [] _).alloc (.cells #[.int .i64 (-1)] 38)) (by simp)
  have hB := (hO.below (Nat.le_refl _) (by simp)).alloc hO.size (.cells #[.int .i64 (-1)] 38)
  obtain ⟨c, hc⟩ : ∃ c, w1.heap.size = c := ⟨_, rfl⟩
  go_wp2_with fail
  rw [hc] at hN hbl
  go_loopw [7] (fun i wr => ∃ (k : Nat) (x : Int) (g : Bool), k ≤ n0 ∧ k ≤ n1 ∧ k ≤ 80 ∧ i = .int .i64 k ∧ RowAt wr b x g ∧ RefAt wr c (vOf x g) ∧ Below w.heap.size w wr)
    (fun i _ => 80 - (intOf i).toNat)
  case atStart => exact ⟨0, 0, false, by omega, by omega, by omega, rfl, hH, hN, hB⟩
  case round =>
    obtain ⟨k, x, g, hk0, hk1, hk2, rfl, hH, hN, hB⟩ := hrel
    by_cases hlt : k < n0 ∧ k < n1 ∧ k < 80
    · obtain ⟨hlt0, hlt1, hlt2⟩ := hlt
      obtain ⟨b0, o0, rfl, hb0, hc0⟩ := h0 (by omega)
      obtain ⟨b1, o1, rfl, hb1, hc1⟩ := h1 (by omega)
      have hx0 := hH.2.1
      have hx1 := hH.2.2
      have hbc : b ≠ c := by omega
      have hcw := hc1 k hlt1
      have hbz := bounds_i64 hcw.2
      have hm0 := hbz.1
      have hm1 := hbz.2
      have hc1 : wr.cell? ⟨b1, o1 + k, none⟩ = some (.int .i64 (z1 k)) := (hB.cell (p := ⟨b1, o1 + k, none⟩) hb1).trans hcw.1
      have hc0 : wr.cell? ⟨b0, o0 + k, none⟩ = some (.int .u8 (z0 k)) := (hB.cell (p := ⟨b0, o0 + k, none⟩) hb0).trans (hc0 k hlt0).1
      generalize z1 k = n at *
      generalize z0 k = z at *
      have hBs := hB.size
      have hend : ∀ w2 x' g', RowAt w2 b x' g' → RefAt w2 c (vOf x' g') → Own [b, c] wr w2 → ∃ (k' : Nat) (x : Int) (g : Bool), k' ≤ n0 ∧ k' ≤ n1 ∧ k' ≤ 80 ∧ Value.int .i64 (k + 1) = .int .i64 k' ∧ RowAt w2 b x g ∧ RefAt w2 c (vOf x g) ∧ Below w.heap.size w w2 :=
        fun w2 x' g' h2 h3 ho => ⟨k + 1, x', g', by omega, by omega, by omega, by go_num, h2, h3, hB.trans (ho.below hBs (by simp; omega))⟩
      replace hend := Lib.hid hend
      have hH' := Lib.hid hH
      have hN' := Lib.hid hN
      clear hcw hbz hB hH hN h0 h1
      by_cases hz0 : z = 0
      · have hzb : (z == 0) = true := by simpa using hz0
        have T1 := Lib.hid (begin_any b x g n wr hH'.out)
        have hr0 : 0 ≤ (sBegin x g n).2.1 := by unfold sBegin; split <;> simp <;> omega
        have T2 := Lib.hid (fun w h => rbegin_any c x g n w h hm0 hm1)
        generalize sBegin x g n = r at *
        clear hz0
        go_wp2_with fail
        refine T1.out.mono ?_
        rintro e w2 ⟨rfl, hH2, hO2⟩
        go_wp2_with fail
        refine (T2.out _ (hN'.out.own hO2 (by simpa using hbc.symm))).mono ?_
        rintro e w3 ⟨rfl, hN3, hO3⟩
        have hH3 := hH2.own hO3 (by simpa using hbc)
        obtain ⟨r1, x', g'⟩ := r
        have hO4 : Own [b, c] wr w3 := (hO2.mono (by simp)).trans (hO3.mono (by simp))
        have T3 := Lib.hid (want_any b x' g' w3 hH3)
        have T4 := Lib.hid (fits_any b x' g' n w3 hH3)
        have hE := Lib.hid (hend.out w3 x' g' hH3 hN3 hO4)
        have cN : w3.cell? ⟨c, 0, none⟩ = some (.int .i64 (vOf x' g')) := cell_of_row w3 c 0 _ _ _ hN3
        clear T1 T2 hH2 hO2 hN3 hO3 hH3 hO4
        simp only at hr0
        cases g'
        · replace cN : w3.cell? ⟨c, 0, none⟩ = some (.int .i64 (-1)) := cN
          simp only [Bool.false_eq_true, if_false, Bool.false_and] at T3 T4
          go_wp2_with fail
          refine T3.out.mono ?_
          rintro e w4 ⟨rfl, rfl⟩
          go_wp2_with fail
          refine T4.out.mono ?_
          rintro e w4 ⟨rfl, rfl⟩
          go_wp2_with fail
          go_roundw
          case rel => exact hE.out
          case measure => simp [intOf]; omega
        · replace cN : w3.cell? ⟨c, 0, none⟩ = some (.int .i64 x') := cN
          simp only [if_true, Bool.true_and] at T3 T4
          go_wp2_with fail
          refine T3.out.mono ?_
          rintro e w4 ⟨rfl, rfl⟩
          go_wp2_with fail
          refine T4.out.mono ?_
          rintro e w4 ⟨rfl, rfl⟩
          go_wp2_with fail
          go_roundw
          case rel => exact hE.out
          case measure => simp [intOf]; omega
      · have hzb : (z == 0) = false := by simpa using hz0
        by_cases hz1 : z = 1
        · have hzb1 : (z == 1) = true := by simpa using hz1
          have T1 := Lib.hid (end_any b x g wr.drew (hH'.out.own (Own.refl [] _).drew (by simp)))
          have hcl := lt_of_heap hN'.out
          have cN0 : wr.cell? ⟨c, 0, none⟩ = some (.int .i64 (vOf x g)) := cell_of_row wr c 0 _ _ _ hN'.out
          have hK : ∀ w2, Own [b] wr.drew w2 → w2.cell? ⟨c, 0, none⟩ = some (.int .i64 (vOf x g)) := fun w2 ho => (ho.cell (p := ⟨c, 0, none⟩) hcl (by simpa using hbc.symm)).trans cN0
          replace hK := Lib.hid hK
          have hK2 : ∀ w2, Own [b] wr.drew w2 → RefAt w2 c (vOf x g) ∧ Own [b, c] wr w2 := fun w2 ho => ⟨hN'.out.own (w' := w2) ((Own.refl [b] _).drew.trans ho) (by simpa using hbc.symm), ((Own.refl [b] _).drew.trans ho).mono (by simp)⟩
          replace hK2 := Lib.hid hK2
          clear hz0 hz1 hcl
          cases g
          · replace cN0 : wr.cell? ⟨c, 0, none⟩ = some (.int .i64 (-1)) := cN0
            go_wp2_with fail
            go_region_with ((go_at_call 17; refine T1.out.mono ?_; rintro e w2 ⟨rfl, hH2, hO2⟩; have cN2 : w2.cell? ⟨c, 0, none⟩ = some (.int .i64 (-1)) := hK.out _ hO2))
            all_goals
              have fN2 : w2.frozen? ⟨c, 0, none⟩ = false := frozen_of_row w2 c 0 _ _ (hK2.out _ hO2).1
              have hH3 : RowAt (w2.setCell ⟨c, 0, none⟩ (.int .i64 (-1))) b 0 false := hH2.own ((Own.refl [c] _).setCell (by simp) _) (by simpa using hbc)
              have hN3 : RefAt (w2.setCell ⟨c, 0, none⟩ (.int .i64 (-1))) c (vOf 0 false) := (hK2.out _ hO2).1.set _
              have T3 := Lib.hid (want_any b 0 false _ hH3)
              have T4 := Lib.hid (fits_any b 0 false n _ hH3)
              have hE := Lib.hid (hend.out _ 0 false hH3 hN3 ((hK2.out _ hO2).2.setCell (by simp) _))
              simp only [Bool.false_eq_true, if_false, Bool.false_and] at T3 T4
              clear hH2 hO2 hN3 hH3 T1
              go_wp2_with fail
              refine T3.out.mono ?_
              rintro e w4 ⟨rfl, rfl⟩
              go_wp2_with fail
              refine T4.out.mono ?_
              rintro e w4 ⟨rfl, rfl⟩
              go_wp2_with fail
              go_roundw
              case rel => exact hE.out
              case measure => simp [intOf]; omega
          · replace cN0 : wr.cell? ⟨c, 0, none⟩ = some (.int .i64 x) := cN0
            go_wp2_with fail
            go_region_with ((go_at_call 17; refine T1.out.mono ?_; rintro e w2 ⟨rfl, hH2, hO2⟩; have cN2 : w2.cell? ⟨c, 0, none⟩ = some (.int .i64 x) := hK.out _ hO2))
            all_goals
              have fN2 : w2.frozen? ⟨c, 0, none⟩ = false := frozen_of_row w2 c 0 _ _ (hK2.out _ hO2).1
              have hH3 : RowAt (w2.setCell ⟨c, 0, none⟩ (.int .i64 (-1))) b 0 false := hH2.own ((Own.refl [c] _).setCell (by simp) _) (by simpa using hbc)
              have hN3 : RefAt (w2.setCell ⟨c, 0, none⟩ (.int .i64 (-1))) c (vOf 0 false) := (hK2.out _ hO2).1.set _
              have T3 := Lib.hid (want_any b 0 false _ hH3)
              have T4 := Lib.hid (fits_any b 0 false n _ hH3)
              have hE := Lib.hid (hend.out _ 0 false hH3 hN3 ((hK2.out _ hO2).2.setCell (by simp) _))
              simp only [Bool.false_eq_true, if_false, Bool.false_and] at T3 T4
              clear hH2 hO2 hN3 hH3 T1
              go_wp2_with fail
              refine T3.out.mono ?_
              rintro e w4 ⟨rfl, rfl⟩
              go_wp2_with fail
              refine T4.out.mono ?_
              rintro e w4 ⟨rfl, rfl⟩
              go_wp2_with fail
              go_roundw
              case rel => exact hE.out
              case measure => simp [intOf]; omega
        · have hzb1 : (z == 1) = false := by simpa using hz1
          have T1 := Lib.hid (take_any b x g n wr hH'.out)
          have hr0 := (sTake_bd (g := g) hx0 hx1 n).1
          have T2 := Lib.hid (fun w h => rtake_any c x g n w h hx0 hm0 hm1)
          generalize sTake x g n = r at *
          clear hz0 hz1
          go_wp2_with fail
          refine T1.out.mono ?_
          rintro e w2 ⟨rfl, hH2, hO2⟩
          go_wp2_with fail
          refine (T2.out _ (hN'.out.own hO2 (by simpa using hbc.symm))).mono ?_
          rintro e w3 ⟨rfl, hN3, hO3⟩
          have hH3 := hH2.own hO3 (by simpa using hbc)
          obtain ⟨r1, x', g'⟩ := r
          have hO4 : Own [b, c] wr w3 := (hO2.mono (by simp)).trans (hO3.mono (by simp))
          have T3 := Lib.hid (want_any b x' g' w3 hH3)
          have T4 := Lib.hid (fits_any b x' g' n w3 hH3)
          have hE := Lib.hid (hend.out w3 x' g' hH3 hN3 hO4)
          have cN : w3.cell? ⟨c, 0, none⟩ = some (.int .i64 (vOf x' g')) := cell_of_row w3 c 0 _ _ _ hN3
          clear T1 T2 hH2 hO2 hN3 hO3 hH3 hO4
          simp only at hr0
          cases g'
          · replace cN : w3.cell? ⟨c, 0, none⟩ = some (.int .i64 (-1)) := cN
            simp only [Bool.false_eq_true, if_false, Bool.false_and] at T3 T4
            go_wp2_with fail
            refine T3.out.mono ?_
            rintro e w4 ⟨rfl, rfl⟩
            go_wp2_with fail
            refine T4.out.mono ?_
            rintro e w4 ⟨rfl, rfl⟩
            go_wp2_with fail
            go_roundw
            case rel => exact hE.out
            case measure => simp [intOf]; omega
          · replace cN : w3.cell? ⟨c, 0, none⟩ = some (.int .i64 x') := cN
            simp only [if_true, Bool.true_and] at T3 T4
            go_wp2_with fail
            refine T3.out.mono ?_
            rintro e w4 ⟨rfl, rfl⟩
            go_wp2_with fail
            refine T4.out.mono ?_
            rintro e w4 ⟨rfl, rfl⟩
            go_wp2_with fail
            go_roundw
            case rel => exact hE.out
            case measure => simp [intOf]; omega
    · have hA := Lib.hid (awake_any wr)
      have hS := hB.size
      clear h0 h1 hH hN
      by_cases q0 : k < n0
      · by_cases q1 : k < n1
        · have q2 : ¬ k < 80 := fun q2 => hlt ⟨q0, q1, q2⟩
          clear hlt
          go_wp2_with fail
          refine hA.out.mono ?_
          rintro e w3 ⟨rfl, hA3⟩
          go_wp2_with fail
          go_ret
          exact ⟨rfl, hB.trans (hA3.below hS (by simp))⟩
        · clear hlt
          go_wp2_with fail
          refine hA.out.mono ?_
          rintro e w3 ⟨rfl, hA3⟩
          go_wp2_with fail
          go_ret
          exact ⟨rfl, hB.trans (hA3.below hS (by simp))⟩
      · clear hlt
        go_wp2_with fail
        refine hA.out.mono ?_
        rintro e w3 ⟨rfl, hA3⟩
        go_wp2_with fail
        go_ret
        exact ⟨rfl, hB.trans (hA3.below hS (by simp))⟩
end Go.Proofs.Ytahnjnmalahefaa
