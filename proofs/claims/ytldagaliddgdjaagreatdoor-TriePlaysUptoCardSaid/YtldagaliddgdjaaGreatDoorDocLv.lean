/- crierref17: Split, wild, sized, Name, Filter: the walks. -/
import Derived.Test.YtldagaliddgdjaaGreatDoorDoc17
namespace Go.Proofs.YtldagaliddgdjaaGreatDoor
open Go.RowKit Go.Lib Go.Shelf

set_option maxRecDepth 100000 in
set_option maxHeartbeats 4000000 in
theorem dsplit_any (s : ByteArray) (w : World) (hs : s.size ≤ 1000) :
    Calls Tryz.prog 53 #[.string s] w (SplitPost w s) := by
  go_enter Tryz.func53, Tryz.ntmps53
  go_wp2_with fail
  go_loopg [3, 4, 5] (s.size + 1) (fun g s3 s4 s5 wr => ∃ (a i : Nat) (T : List ByteArray), s4 = .int .i64 a ∧ s5 = .int .i64 i ∧ g = s.size + 1 - i ∧ a ≤ i ∧ i ≤ s.size ∧ T.length ≤ i ∧ Sl 9 lEnc 1 w.heap.size wr s3 T ∧ Own [] w wr ∧ Aside (T ++ levF s a = levels s ∧ ∀ j, a ≤ j → j < i → s.get! j ≠ 47))
  case atStart => exact ⟨0, 0, [], rfl, rfl, rfl, Nat.le_refl _, Nat.zero_le _, Nat.le_refl _, Sl.nil _ _ _, Own.refl _ _, by rw [List.nil_append, levF_zero], fun j h1 h2 => by omega⟩
  case round =>
    obtain ⟨a, i, T, rfl, rfl, hg, ha, hi, hT, hS, hO, hA1, hA2⟩ := hrel
    obtain ⟨a1, c1, hva⟩ := hS.sl
    subst hva
    have hw1 : IntKind.i64.wrap ((i : Int) + 1) = (i : Int) + 1 := IntWalk.i64_in _ (by omega)
    have ha1 : (a : Int) ≤ i := by omega
    have ha2 : (i : Int) ≤ s.size := by omega
    by_cases hlt : i < s.size
    · have h1 : (i : Int) < s.size := by omega
      have h0 : (0 : Int) ≤ i := by omega
      have he : ((s[i]'hlt).toNat : Int) = ((s.get! i).toNat : Int) := by rw [get_is s i hlt]
      by_cases hc : s.get! i = 47
      · have hT2 : (T ++ [s.extract a i]) ++ levF s (i + 1) = levels s := by rw [← hA1, levF_cut hA2 ha hlt hc]; simp
        have h47 : ((s[i]'hlt).toNat : Int) = 47 := by rw [he, hc]; rfl
        have hOb := hO.alloc (.cells #[.string (s.extract a i)] 9)
        have hSb : Sl 9 lEnc 1 w.heap.size (wr.alloc (.cells #[.string (s.extract a i)] 9)) (.slice a1 T.length c1) T := hS.nil' ((Own.refl [] wr).alloc _)
        have hRb := Reads.new (enc := lEnc) (T := 9) wr (s.extract a i) 1
        replace hOb := Lib.hid hOb
        replace hSb := Lib.hid hSb
        replace hRb := Lib.hid hRb
        replace hT2 := Lib.hid hT2
        replace hg := Lib.hid hg
        clear hA1 hA2 hS hO he
        go_wp2_with (at_builtin; refine wpList_append_new rfl (.tmp 16) (.tmp 21) rfl lElem hOb.out rfl hSb.out rfl hRb.out (by simp only [List.length_singleton]; omega) (by unfold maxLen; simp only [List.length_singleton]; omega) ?_; intro va2 w5 hS5 hO5 _ _; obtain ⟨a2, c2, rfl⟩ := hS5.sl; rw [List.length_append, List.length_singleton] at hS5; replace hS5 := Lib.hid hS5; replace hO5 := Lib.hid hO5)
        go_roundg (s.size + 1 - (i + 1))
        case measure => have := hg.out; omega
        case rel => exact ⟨i + 1, i + 1, T ++ [s.extract a i], by simp, by simp, rfl, Nat.le_refl _, by omega, by simp; omega, hS5.out, hO5.out, hT2.out, fun j h1 h2 => by omega⟩
      · have h47 : ¬ (((s[i]'hlt).toNat : Int) = 47) := by
          rw [he]
          intro e
          exact hc (UInt8.toNat_inj.1 (show (s.get! i).toNat = 47 by omega))
        have h47b : (((s[i]'hlt).toNat : Int) == 47) = false := by simpa using h47
        have hA3 : ∀ j, a ≤ j → j < i + 1 → s.get! j ≠ 47 := fun j h1 h2 => by
          by_cases hj : j < i
          · exact hA2 j h1 hj
          · obtain rfl : j = i := by omega
            exact hc
        have hA4 := Lib.hid (And.intro hA1 hA3)
        replace hS := Lib.hid hS
        replace hO := Lib.hid hO
        replace hg := Lib.hid hg
        clear hA1 hA2 hA3 he h47
        go_wp2_with fail
        go_roundg (s.size + 1 - (i + 1))
        case measure => have := hg.out; omega
        case rel => exact ⟨a, i + 1, T, rfl, by simp, rfl, by omega, by omega, by omega, hS.out, hO.out, hA4.out⟩
    · obtain rfl : i = s.size := by omega
      have h1 : ¬ ((s.size : Nat) : Int) < s.size := by omega
      have hT2 : T ++ [s.extract a s.size] = levels s := by rw [← hA1, levF_one hA2]
      have hOb := hO.alloc (.cells #[.string (s.extract a s.size)] 9)
      have hSb : Sl 9 lEnc 1 w.heap.size (wr.alloc (.cells #[.string (s.extract a s.size)] 9)) (.slice a1 T.length c1) T := hS.nil' ((Own.refl [] wr).alloc _)
      have hRb := Reads.new (enc := lEnc) (T := 9) wr (s.extract a s.size) 1
      replace hOb := Lib.hid hOb
      replace hSb := Lib.hid hSb
      replace hRb := Lib.hid hRb
      replace hT2 := Lib.hid hT2
      replace hg := Lib.hid hg
      clear hA1 hA2 hS hO
      go_wp2_with (at_builtin; refine wpList_append_new rfl (.tmp 25) (.tmp 29) rfl lElem hOb.out rfl hSb.out rfl hRb.out (by simp only [List.length_singleton]; omega) (by unfold maxLen; simp only [List.length_singleton]; omega) ?_; intro va2 w5 hS5 hO5 _ _; rw [hT2.out] at hS5; have F := Lib.hid (And.intro hS5 hO5); clear hS5 hO5)
      go_ret
      exact ⟨_, rfl, F.out⟩

set_option maxRecDepth 100000 in
set_option maxHeartbeats 4000000 in
theorem dwild_any (s : ByteArray) (w : World) (hs : s.size ≤ 1000) :
    Calls Tryz.prog 60 #[.string s] w fun e w' => e = .returned (.bool (lvWild s)) ∧ w = w' := by
  rw [lvWild_eq]
  have hz : (s.toList.drop 0).any wildB = s.toList.any wildB := by rw [List.drop_zero]
  generalize s.toList.any wildB = ans at hz ⊢
  replace hz := Lib.hid hz
  go_enter Tryz.func60, Tryz.ntmps60
  go_wp2_with fail
  go_loopg [3] (s.size + 1) (fun g s3 wr => ∃ i : Nat, s3 = .int .i64 i ∧ g = s.size + 1 - i ∧ i ≤ s.size ∧ wr = w ∧ Aside ((s.toList.drop i).any wildB = ans))
  case atStart => exact ⟨0, rfl, rfl, Nat.zero_le _, rfl, hz.out⟩
  case round =>
    obtain ⟨i, rfl, hg, hi, rfl, hA⟩ := hrel
    replace hA := hA.out
    have hw1 : IntKind.i64.wrap ((i : Int) + 1) = (i : Int) + 1 := IntWalk.i64_in _ (by omega)
    by_cases hlt : i < s.size
    · have h1 : (i : Int) < s.size := by omega
      have h0 : (0 : Int) ≤ i := by omega
      rw [drop_any wildB hlt, wildB_nat] at hA
      have he : ((s[i]'hlt).toNat : Int) = ((s.get! i).toNat : Int) := by rw [get_is s i hlt]
      unfold isWild at hA
      generalize (s.get! i).toNat = c at he hA
      replace hg := Lib.hid hg
      by_cases h43 : c = 43
      · subst h43
        simp only [beq_self_eq_true, Bool.true_or] at hA
        subst hA
        have k1 : (((43 : Nat) : Int) == 43) = true := rfl
        go_wp2_with fail
        go_ret
        exact ⟨rfl, rfl⟩
      · have k1 : ((c : Int) == 43) = false := by simp; omega
        by_cases h35 : c = 35
        · subst h35
          simp at hA
          subst hA
          have k2 : (((35 : Nat) : Int) == 35) = true := rfl
          go_wp2_with fail
          go_ret
          exact ⟨rfl, rfl⟩
        · have k2 : ((c : Int) == 35) = false := by simp; omega
          have hA2 : (s.toList.drop (i + 1)).any wildB = ans := by
            rw [show (c == 43) = false by simpa using h43, show (c == 35) = false by simpa using h35] at hA
            simpa using hA
          replace hA2 := Lib.hid hA2
          clear hA
          go_wp2_with fail
          go_roundg (s.size + 1 - (i + 1))
          case measure => have := hg.out; omega
          case rel => exact ⟨i + 1, by simp, rfl, by omega, rfl, hA2.out⟩
    · obtain rfl : i = s.size := by omega
      have h1 : ¬ ((s.size : Nat) : Int) < s.size := by omega
      rw [List.drop_eq_nil_of_le (by rw [size_toList]; omega)] at hA
      simp only [List.any_nil] at hA
      subst hA
      go_wp2_with fail
      go_ret
      exact ⟨rfl, rfl⟩

theorem lvSized_eq (s : ByteArray) : lvSized s = (decide (1 ≤ s.size) && decide (s.size ≤ 96) && docRight s && decide ((levels s).length ≤ 12)) := by
  unfold lvSized
  rw [docRight_eq, levels_count]
  have h1 : s.toList.isEmpty = !(decide (1 ≤ s.size)) := by
    rw [← size_toList]
    cases s.toList <;> simp
  rw [h1, Bool.not_or, Bool.not_or, Bool.not_not, Bool.not_not]
  have h2 : (!(decide (96 < s.size))) = decide (s.size ≤ 96) := by rw [Bool.eq_iff_iff]; simp
  have h3 : decide (countByte s.data.toList 47 < 12) = decide (countByte s.data.toList 47 + 1 ≤ 12) := by rw [Bool.eq_iff_iff]; simp; omega
  rw [h2, h3]
set_option maxRecDepth 100000 in
set_option maxHeartbeats 4000000 in
theorem dsized_any (s : ByteArray) (w : World) :
    Calls Tryz.prog 59 #[.string s] w fun e w' => e = .returned (.bool (lvSized s)) ∧ Own [] w w' := by
  rw [lvSized_eq]
  by_cases h1 : 1 ≤ s.size
  · have k1 : (1 : Int) ≤ s.size := by omega
    have d1 : decide (1 ≤ s.size) = true := by simpa using h1
    rw [d1, Bool.true_and]
    by_cases h2 : s.size ≤ 96
    · have k2 : (s.size : Int) ≤ 96 := by omega
      have d2 : decide (s.size ≤ 96) = true := by simpa using h2
      rw [d2, Bool.true_and]
      have R := docRight_any s w (by omega)
      have S := fun W => dsplit_any s W (by omega)
      have hL : (levels s).length ≤ 97 := by have := levels_len s; omega
      generalize docRight s = r at R ⊢
      replace R := Lib.hid R
      replace S := Lib.hid S
      cases r
      · rw [Bool.false_and]
        go_enter Tryz.func59, Tryz.ntmps59
        go_wp2_with (go_at_call 80; refine R.out.mono ?_; rintro e w2 ⟨rfl, hO2⟩; replace hO2 := Lib.hid hO2)
        go_ret
        exact ⟨rfl, hO2.out⟩
      · rw [Bool.true_and]
        have d3 : decide ((levels s).length ≤ 12) = decide (((levels s).length : Int) ≤ 12) := by simp only [decide_eq_decide]; omega
        rw [d3]
        go_enter Tryz.func59, Tryz.ntmps59
        go_wp2_with (first
          | (go_at_call 80; refine R.out.mono ?_; rintro e w2 ⟨rfl, hO2⟩; replace hO2 := Lib.hid hO2)
          | (go_at_call 53; refine (S.out _).mono ?_; rintro e w3 ⟨v, rfl, hSl, hO3⟩; obtain ⟨aa, ca, rfl⟩ := hSl.sl; replace hO3 := Lib.hid (hO2.out.trans hO3); clear hSl))
        go_ret
        exact ⟨rfl, hO3.out⟩
    · have k2 : ¬ (s.size : Int) ≤ 96 := by omega
      have d2 : decide (s.size ≤ 96) = false := by simpa using h2
      rw [d2, Bool.false_and, Bool.false_and]
      go_enter Tryz.func59, Tryz.ntmps59
      go_wp2_with fail
      go_ret
      exact ⟨rfl, Own.refl _ _⟩
  · have k1 : ¬ (1 : Int) ≤ s.size := by omega
    have d1 : decide (1 ≤ s.size) = false := by simpa using h1
    rw [d1, Bool.false_and, Bool.false_and, Bool.false_and]
    go_enter Tryz.func59, Tryz.ntmps59
    go_wp2_with fail
    go_ret
    exact ⟨rfl, Own.refl _ _⟩
set_option maxRecDepth 100000 in
set_option maxHeartbeats 4000000 in
theorem dname_any (s : ByteArray) (w : World) :
    Calls Tryz.prog 50 #[.string s] w fun e w' => e = .returned (.bool (lvName s)) ∧ Own [] w w' := by
  unfold lvName
  have S := dsized_any s w
  have hp := fun h => (lvSized_pos (s := s) h).2
  generalize lvSized s = b at S hp ⊢
  replace S := Lib.hid S
  cases b
  · rw [Bool.false_and]
    go_enter Tryz.func50, Tryz.ntmps50
    go_wp2_with (go_at_call 59; refine S.out.mono ?_; rintro e w2 ⟨rfl, hO2⟩; replace hO2 := Lib.hid hO2)
    go_ret
    exact ⟨rfl, hO2.out⟩
  · have W := fun w => dwild_any s w (by have := hp rfl; omega)
    rw [Bool.true_and]
    replace W := Lib.hid W
    go_enter Tryz.func50, Tryz.ntmps50
    go_wp2_with (first
      | (go_at_call 59; refine S.out.mono ?_; rintro e w2 ⟨rfl, hO2⟩; replace hO2 := Lib.hid hO2)
      | (go_at_call 60; refine (W.out _).mono ?_; rintro e w' ⟨rfl, rfl⟩))
    go_ret
    exact ⟨rfl, hO2.out⟩

set_option maxRecDepth 100000 in
set_option maxHeartbeats 4000000 in
theorem dfilter_any (s : ByteArray) (w : World) :
    Calls Tryz.prog 38 #[.string s] w fun e w' => e = .returned (.bool (lvFilter s)) ∧ Own [] w w' := by
  rw [lvFilter_eq]
  have cS := dsized_any s w
  have hp := fun h => lvSized_pos (s := s) h
  generalize hV : lvSized s = V at cS hp ⊢
  replace cS := Lib.hid cS
  cases V
  · rw [Bool.false_and]
    go_enter Tryz.func38, Tryz.ntmps38
    go_wp2_with (go_at_call 59; refine cS.out.mono ?_; rintro e w1 ⟨rfl, hb⟩)
    go_ret
    exact ⟨rfl, hb⟩
  · rw [Bool.true_and]
    have hs := (hp rfl).2
    have hL : (levels s).length ≤ 100 := by have := levels_len s; omega
    have hLs : ∀ x ∈ levels s, x.size ≤ 1000 := fun x hx => by
      obtain ⟨y, hy, rfl⟩ := List.mem_map.1 hx
      have h1 : ∀ (l : List UInt8), ∀ y ∈ cutL l, y.length ≤ l.length := by
        intro l
        induction l with
        | nil => intro y hy; simp [cutL] at hy; subst hy; exact Nat.le_refl _
        | cons c r ih =>
          intro y hy
          rw [cutL_cons] at hy
          split at hy
          · rcases List.mem_cons.1 hy with rfl | hy
            · simp
            · have := ih y hy; simp; omega
          · split at hy
            · rename_i z t he
              rcases List.mem_cons.1 hy with rfl | hy
              · have := ih z (by rw [he]; exact List.mem_cons_self ..); simp; omega
              · have := ih y (by rw [he]; exact List.mem_cons_of_mem _ hy); simp; omega
            · simp at hy; subst hy; simp
      have h2 := h1 _ y hy
      rw [size_toList] at h2
      have h3 : (mkB y).size = y.length := by rw [← size_toList, mkB_toList]
      omega
    have cW := Lib.hid (fun x (hx : ByteArray.size x ≤ 1000) W => dwild_any x W hx)
    have cP := Lib.hid (fun W => dsplit_any s W (by omega))
    clear hp hV hs
    generalize hans : okFrom (levels s) 0 = ans at ⊢
    generalize hLe : levels s = L at hans hL hLs
    replace hLe := Lib.hid hLe
    replace hans := Lib.hid hans
    replace hLs := Lib.hid hLs
    go_enter Tryz.func38, Tryz.ntmps38
    go_wp2_with (first
      | (go_at_call 59; refine cS.out.mono ?_; rintro e w1 ⟨rfl, hb⟩; replace hb := Lib.hid hb)
      | (go_at_call 53; refine (cP.out w1).mono ?_; rintro e w2 ⟨v, rfl, hSl, hb2⟩; rw [hLe.out] at hSl; have hR := hSl.reads lEnc_len; obtain ⟨aa, ca, rfl⟩ := hR.form; replace hb2 := Lib.hid (hb.out.trans hb2); clear hSl))
    go_loopg [4] (L.length + 1) (fun g s4 wr => ∃ i : Nat, s4 = .int .i64 i ∧ g = L.length + 1 - i ∧ i ≤ L.length ∧ wr = w2 ∧ Aside (okFrom L i = ans))
    case atStart => exact ⟨0, rfl, rfl, Nat.zero_le _, rfl, hans.out⟩
    case round =>
      obtain ⟨i, rfl, hg, hi, hwr, hA⟩ := hrel
      have h2 := hwr.symm; subst h2
      replace hA := hA.out
      by_cases hlt : i < L.length
      · obtain ⟨x, hx⟩ : ∃ x, L[i]? = some x := ⟨_, List.getElem?_eq_getElem hlt⟩
        rw [okFrom_step hx] at hA
        obtain ⟨b0, o0, rfl, hca⟩ := hR.at_ lEnc_len (by omega)
        have hxc : w2.cell? ⟨b0, o0 + i, none⟩ = some (.string x) := by simpa using hca i x 0 _ hx rfl
        have cW2 := fun W => cW.out x (hLs.out x (List.mem_of_getElem? hx)) W
        clear hca hx
        have h1 : (x == plusB) = (x.toList == [43]) := by rw [eq_toList, plus_list]
        have h2 : (x == hashB) = (x.toList == [35]) := by rw [eq_toList, hash_list]
        have hlt2 : (i : Int) < L.length := by omega
        have hi0 : (0 : Int) ≤ i := by omega
        have hw1 : IntKind.i64.wrap ((i : Int) + 1) = (i : Int) + 1 := IntWalk.i64_in _ (by omega)
        have hw2 : IntKind.i64.wrap ((L.length : Int) - 1) = (L.length : Int) - 1 := IntWalk.i64_in _ (by omega)
        replace hg := Lib.hid hg
        unfold lvOk at hA
        rw [h1, h2] at hA
        clear h1 h2
        generalize lvWild x = wi at hA cW2
        replace cW2 := Lib.hid cW2
        cases wi
        · rw [Bool.not_false, Bool.or_true, Bool.true_or, Bool.true_and] at hA
          replace hA := Lib.hid hA
          go_wp2_with (go_at_call 60; refine (cW2.out _).mono ?_; rintro e w3 ⟨rfl, rfl⟩)
          go_roundg (L.length + 1 - (i + 1))
          case measure => have := hg.out; omega
          case rel => exact ⟨i + 1, by simp, rfl, by omega, rfl, hA.out⟩
        · rw [Bool.not_true, Bool.or_false] at hA
          cases hq : (x.toList == [43])
          · rw [hq, Bool.false_or] at hA
            cases hh : (x.toList == [35])
            · rw [hh, Bool.false_and, Bool.false_and] at hA
              subst hA
              go_wp2_with (go_at_call 60; refine (cW2.out _).mono ?_; rintro e w3 ⟨rfl, rfl⟩)
              go_ret
              exact ⟨rfl, hb2.out⟩
            · rw [hh, Bool.true_and] at hA
              by_cases hl : i + 1 = L.length
              · have hl2 : ¬ ((i : Int) < (L.length : Int) - 1) := by omega
                have hl3 : (i + 1 == L.length) = true := by simp; omega
                rw [hl3, Bool.true_and] at hA
                replace hA := Lib.hid hA
                replace hl := Lib.hid hl
                clear hl3
                go_wp2_with (go_at_call 60; refine (cW2.out _).mono ?_; rintro e w3 ⟨rfl, rfl⟩)
                go_roundg (L.length + 1 - (i + 1))
                case measure => have := hg.out; omega
                case rel => exact ⟨i + 1, by simp, rfl, by omega, rfl, hA.out⟩
              · have hl2 : (i : Int) < (L.length : Int) - 1 := by omega
                have hl3 : (i + 1 == L.length) = false := by simp; omega
                rw [hl3, Bool.false_and] at hA
                subst hA
                replace hl := Lib.hid hl
                clear hl3
                go_wp2_with (go_at_call 60; refine (cW2.out _).mono ?_; rintro e w3 ⟨rfl, rfl⟩)
                go_ret
                exact ⟨rfl, hb2.out⟩
          · rw [hq, Bool.true_or, Bool.true_and] at hA
            replace hA := Lib.hid hA
            go_wp2_with (go_at_call 60; refine (cW2.out _).mono ?_; rintro e w3 ⟨rfl, rfl⟩)
            go_roundg (L.length + 1 - (i + 1))
            case measure => have := hg.out; omega
            case rel => exact ⟨i + 1, by simp, rfl, by omega, rfl, hA.out⟩
      · have hlt2 : ¬ (i : Int) < L.length := by omega
        rw [okFrom_end (by omega)] at hA
        subst hA
        replace hg := Lib.hid hg
        go_wp2_with fail
        go_ret
        exact ⟨rfl, hb2.out⟩
end Go.Proofs.YtldagaliddgdjaaGreatDoor
