/- Scripts (chapter 40): an event's line: the document's. -/
import Derived.Test.YtnppgidbfmbdgaaDoorScriptPrint
set_option linter.unusedSimpArgs false
set_option linter.unusedVariables false
namespace Go.Proofs.YtnppgidbfmbdgaaDoor
open Go.RowKit Go.Sort

set_option maxRecDepth 100000 in
set_option maxHeartbeats 4000000 in
theorem rprint_any (k c n : Int) (d : ByteArray) (w : World) :
    Calls Tryd.prog 7 #[.agg #[.int .i64 k, .int .i64 c, .int .i64 n, .string d]] w fun e w' => PrintP (scPrint k c n d) e ∧ Own [] w w' := by
  have hO1 : Own [] w (w.alloc (.cells #[.int .i64 k, .int .i64 c, .int .i64 n, .string d] 23)) := (Own.refl _ _).alloc _
  have hbk := heap_alloc_new w (.cells #[.int .i64 k, .int .i64 c, .int .i64 n, .string d] 23)
  have hO1' := Lib.hid hO1
  by_cases hk : 0 ≤ k ∧ k ≤ 4
  · have hk1 : ¬ k < 0 := by omega
    have hk2 : ¬ 4 < k := by omega
    have cF := fun W => word_any k W hk
    obtain ⟨m, hm⟩ : ∃ m, scM k c n = m := ⟨_, rfl⟩
    have e0 : scPrint k c n d = if m < 0 ∨ 1073741824 < m then (⟨#[]⟩, 5) else if (k = 1 ∧ 32768 < d.size) ∨ 32768 < (scLine k m d).size then (⟨#[]⟩, 3) else (scLine k m d, 0) := by
      unfold scPrint; rw [if_neg (by simpa using hk), hm]
    rw [e0]
    replace cF := Lib.hid cF
    by_cases hr : m < 0 ∨ 1073741824 < m
    · rw [if_pos hr]
      clear hO1 hbk e0
      have hq : ((k == 3) = true ∧ n = m) ∨ ((k == 3) = false ∧ c = m) := by
        unfold scM at hm
        rcases sc_split k with h | h | h | h | h | h
        · exact absurd hk h
        all_goals
          subst h
          first
            | (refine .inl ⟨rfl, ?_⟩; simpa using hm)
            | (refine .inr ⟨rfl, ?_⟩; simpa using hm)
      rcases hq with ⟨q1, rfl⟩ | ⟨q1, rfl⟩
      all_goals
        clear hm hk
        rcases hr with hr | hr
        · go_enter Tryd.func7, Tryd.ntmps7
          go_wp2_with (go_at_call 20; ((with_reducible refine (cF.out _).mono ?_); rintro e w2 ⟨rfl, rfl⟩))
          go_ret2
          exact ⟨printP_err 5, hO1'.out⟩
        · have hr2 : ¬ (_ : Int) < 0 := Int.not_lt.2 (Int.le_of_lt (Int.lt_trans (by decide : (0 : Int) < 1073741824) hr))
          go_enter Tryd.func7, Tryd.ntmps7
          go_wp2_with (go_at_call 20; ((with_reducible refine (cF.out _).mono ?_); rintro e w2 ⟨rfl, rfl⟩))
          go_ret2
          exact ⟨printP_err 5, hO1'.out⟩
    · rw [if_neg hr]
      have hm0 : 0 ≤ m := by omega
      have hm1 : m ≤ 1073741824 := by omega
      have hm2 : ¬ m < 0 := by omega
      have hm3 : ¬ 1073741824 < m := by omega
      clear hr e0
      have cI := Lib.hid (rdigits_any m hm0 hm1 (w.alloc (.cells #[.int .i64 k, .int .i64 c, .int .i64 n, .string d] 23)))
      have s1 := scWord_size k
      have s2 := scDec_size hm1
      have s3 := scBytes_size d
      have hsz1 : (scHead k m).size = (scWord k).size + 1 + (scDec m).size := by unfold scHead; rw [ByteArray.size_append, ByteArray.size_append]; rfl
      have a1 : ¬ 9223372036854775807 < (scWord k).size + 1 := by omega
      have a2 : ¬ 9223372036854775807 < (scWord k).size + 1 + (scDec m).size := by omega
      by_cases h1 : k = 1
      · have q1 : (k == 3) = false := by rw [h1]; rfl
        have q2 : (k == 1) = true := by rw [h1]; rfl
        have hcm : c = m := by rw [← hm, h1]; rfl
        subst hcm
        replace hbk := Lib.hid hbk
        have eL : scLine k c d = scHead k c ++ (⟨#[32]⟩ ++ scBytes d) := by unfold scLine; rw [if_pos h1]
        have hL : (scLine k c d).size = (scWord k).size + 1 + (scDec c).size + (1 + (scBytes d).size) := by
          rw [eL, ByteArray.size_append, ByteArray.size_append, hsz1]; rfl
        by_cases hd2 : 32768 < d.size
        · rw [if_pos (.inl ⟨h1, hd2⟩)]
          have b1 : (32768 : Int) < d.size := by omega
          clear eL hL h1 hsz1 hk hm s3 hd2 hO1
          go_enter Tryd.func7, Tryd.ntmps7
          go_wp2_with (first
            | (go_at_call 20; ((with_reducible refine (cF.out _).mono ?_); rintro e w2 ⟨rfl, rfl⟩))
            | (go_at_call 21; ((with_reducible refine cI.out.mono ?_); rintro e w3 ⟨rfl, hO3⟩; obtain ⟨f0, f1, f2, f3⟩ := blk4 (hO3.heap hbk.out (by simp)); replace hO3 := Lib.hid (hO1'.out.trans hO3))))
          go_ret2
          exact ⟨printP_err 3, hO3.out⟩
        · have b1 : ¬ (32768 : Int) < d.size := by omega
          have cB := Lib.hid (fun W => rbytes_any d (by omega) W)
          have a3 : ¬ 9223372036854775807 < 1 + (scBytes d).size := by omega
          have a4 : ¬ 9223372036854775807 < (scWord k).size + 1 + (scDec c).size + (1 + (scBytes d).size) := by omega
          by_cases hd3 : 32768 < (scLine k c d).size
          · rw [if_pos (.inr hd3)]
            have b2 : (32768 : Int) < (scWord k).size + 1 + (scDec c).size + (1 + (scBytes d).size) := by omega
            clear eL hL h1 hsz1 hk hm s3 hd2 hd3 hO1
            go_enter Tryd.func7, Tryd.ntmps7
            go_wp2_with (first
              | (go_at_call 20; ((with_reducible refine (cF.out _).mono ?_); rintro e w2 ⟨rfl, rfl⟩))
              | (go_at_call 21; ((with_reducible refine cI.out.mono ?_); rintro e w3 ⟨rfl, hO3⟩; obtain ⟨f0, f1, f2, f3⟩ := blk4 (hO3.heap hbk.out (by simp)); replace hO3 := Lib.hid (hO1'.out.trans hO3)))
              | (go_at_call 11; ((with_reducible refine (cB.out _).mono ?_); rintro e w4 ⟨rfl, hO4⟩; replace hO4 := Lib.hid (hO3.out.trans hO4))))
            go_ret2
            exact ⟨printP_err 3, hO4.out⟩
          · rw [if_neg (by rintro (h | h); exact hd2 h.2; exact hd3 h)]
            have b2 : ¬ (32768 : Int) < (scWord k).size + 1 + (scDec c).size + (1 + (scBytes d).size) := by omega
            have hfin := Lib.hid (show scLine k c d = scWord k ++ ⟨#[32]⟩ ++ scDec c ++ ⟨#[32]⟩ ++ scBytes d by rw [eL, ← ByteArray.append_assoc]; rfl)
            clear eL hL h1 hsz1 hk hm s3 hd2 hd3 hO1
            go_enter Tryd.func7, Tryd.ntmps7
            go_wp2_with (first
              | (go_at_call 20; ((with_reducible refine (cF.out _).mono ?_); rintro e w2 ⟨rfl, rfl⟩))
              | (go_at_call 21; ((with_reducible refine cI.out.mono ?_); rintro e w3 ⟨rfl, hO3⟩; obtain ⟨f0, f1, f2, f3⟩ := blk4 (hO3.heap hbk.out (by simp)); replace hO3 := Lib.hid (hO1'.out.trans hO3)))
              | (go_at_call 11; ((with_reducible refine (cB.out _).mono ?_); rintro e w4 ⟨rfl, hO4⟩; replace hO4 := Lib.hid (hO3.out.trans hO4))))
            go_ret2
            exact ⟨by rw [hfin.out]; exact printP_ok _, hO4.out⟩
      · have q2 : (k == 1) = false := by
          rcases sc_split k with h | h | h | h | h | h
          · exact absurd hk h
          · exact absurd h h1
          all_goals subst h; rfl
        have eL : scLine k m d = scHead k m := by unfold scLine; rw [if_neg h1]
        rw [if_neg (by rw [eL, hsz1]; rintro (h | h); exact h1 h.1; omega), eL]
        have hq : ((k == 3) = true ∧ n = m) ∨ ((k == 3) = false ∧ c = m) := by
          unfold scM at hm
          rcases sc_split k with h | h | h | h | h | h
          · exact absurd hk h
          · exact absurd h h1
          all_goals
            subst h
            first
              | (refine .inl ⟨rfl, ?_⟩; simpa using hm)
              | (refine .inr ⟨rfl, ?_⟩; simpa using hm)
        have a3 : ¬ 32768 < (scWord k).size + 1 + (scDec m).size := by omega
        have a4 : ¬ (32768 : Int) < (scWord k).size + 1 + (scDec m).size := by omega
        have hfin := Lib.hid (show scHead k m = scWord k ++ ⟨#[32]⟩ ++ scDec m from rfl)
        replace hbk := Lib.hid hbk
        clear eL hsz1 s3 hk h1 hO1
        rcases hq with ⟨q1, rfl⟩ | ⟨q1, rfl⟩
        all_goals
          clear hm
          go_enter Tryd.func7, Tryd.ntmps7
          go_wp2_with (first
            | (go_at_call 20; ((with_reducible refine (cF.out _).mono ?_); rintro e w2 ⟨rfl, rfl⟩))
            | (go_at_call 21; ((with_reducible refine cI.out.mono ?_); rintro e w3 ⟨rfl, hO3⟩; obtain ⟨f0, f1, f2, f3⟩ := blk4 (hO3.heap hbk.out (by simp)); replace hO3 := Lib.hid (hO1'.out.trans hO3))))
          go_ret2
          exact ⟨by rw [hfin.out]; exact printP_ok _, hO3.out⟩
  · have e0 : scPrint k c n d = (⟨#[]⟩, 11) := by unfold scPrint; rw [if_pos hk]
    rw [e0]
    have hk3 : k < 0 ∨ (¬ k < 0 ∧ 4 < k) := by omega
    clear e0 hO1 hbk hk
    rcases hk3 with h | ⟨h, h'⟩
    all_goals
      go_enter Tryd.func7, Tryd.ntmps7
      go_wp2_with fail
      go_ret2
      exact ⟨printP_err 11, hO1'.out⟩
end Go.Proofs.YtnppgidbfmbdgaaDoor
