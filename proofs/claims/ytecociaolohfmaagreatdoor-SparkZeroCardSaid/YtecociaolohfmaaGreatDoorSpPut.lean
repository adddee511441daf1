/- The namespace (chapter 20): a spot's topic. -/
import Derived.Test.YtecociaolohfmaaGreatDoorSpParts
import Derived.Deep.LoopGhost
set_option linter.unusedSimpArgs false
set_option linter.unusedVariables false
namespace Go.Proofs.YtecociaolohfmaaGreatDoor
open Go.RowKit

def spPut (s : Spot) : ByteArray × Int :=
  if s.k < 1 ∨ 9 < s.k then (⟨#[]⟩, 11)
  else if (spWidth s.k < 5 ∧ s.d.size ≠ 0) ∨ (s.k = 9 ∧ s.g.size ≠ 0) then (⟨#[]⟩, 4)
  else if (spFree s).all spPart = false then (⟨#[]⟩, 13)
  else if lvName (joinB (spAll s)) = true then (joinB (spAll s), 0) else (⟨#[]⟩, 13)
def PutP (r : ByteArray × Int) (e : Ending) : Prop := e = .returned (.tuple #[.string r.1, .int .i64 r.2])
theorem putP_err (n : Int) : PutP (⟨#[]⟩, n) (.returned (.tuple #[.string ⟨#[]⟩, .int .i64 n])) := rfl
theorem putP_ok (s : ByteArray) : PutP (s, 0) (.returned (.tuple #[.string s, .int .i64 0])) := rfl
theorem part_size {s : ByteArray} (h : spPart s = true) : s.size ≤ 96 := by
  unfold spPart lvName lvSized at h
  simp at h
  omega
theorem join_len : ∀ l : List (List UInt8), (Lib.join l [47]).length ≤ (l.map List.length).sum + l.length
  | [] => by simp [Lib.join]
  | [x] => by simp [Lib.join]
  | x :: y :: t => by
    have := join_len (y :: t)
    rw [join_cons2]
    simp at this ⊢
    omega
theorem joinB_size (xs : List ByteArray) : (joinB xs).size ≤ (xs.map ByteArray.size).sum + xs.length := by
  have := join_len (xs.map (·.data.toList))
  unfold joinB
  rw [Lib.size_eq]
  simp only [List.map_map, List.length_map] at this
  have e : (List.length ∘ fun x : ByteArray => x.data.toList) = ByteArray.size := by funext x; exact (Lib.size_eq x).symm
  rw [e] at this
  exact this
theorem spWord_size (k : Int) : (spWord k).size ≤ 6 := by
  unfold spWord
  repeat (first | (split; · decide) | decide)
theorem put_join {s : Spot} (h : (spFree s).all spPart = true) : (joinB (spAll s)).size ≤ 1000 := by
  have h1 := joinB_size (spAll s)
  have hw := spWord_size s.k
  have hr : rootB.size = 7 := rfl
  have ht : stateB.size = 5 := rfl
  unfold spAll at h1 ⊢
  unfold spFree at h
  split at h
  · rename_i h9
    rw [if_pos h9] at h1 ⊢
    simp at h h1
    have := part_size h
    omega
  · rename_i h9
    rw [if_neg h9] at h1 ⊢
    split at h
    · rename_i h5
      rw [if_pos h5] at h1 ⊢
      simp at h h1
      have := part_size h.1
      have := part_size h.2.1
      have := part_size h.2.2
      omega
    · rename_i h5
      rw [if_neg h5] at h1 ⊢
      simp at h h1
      have := part_size h.1
      have := part_size h.2
      omega
theorem empty_iff (x : ByteArray) : (x.size = 0 ∧ x.toList.isEmpty = true ∧ x.toList = []) ∨ (x.size ≠ 0 ∧ x.toList.isEmpty = false) := by
  by_cases h : x.size = 0
  · have : x.toList = [] := List.eq_nil_of_length_eq_zero (by rw [Lib.toList_data, ← Lib.size_eq]; exact h)
    exact .inl ⟨h, by rw [this]; rfl, this⟩
  · refine .inr ⟨h, ?_⟩
    rw [List.isEmpty_eq_false_iff]
    intro e
    apply h
    rw [Lib.size_eq, ← Lib.toList_data, e]
    rfl
set_option maxRecDepth 100000 in
set_option maxHeartbeats 8000000 in
theorem put_any (s : Spot) (w : World) (hW : WordsAt w) (hT : Tabs w) (hM : MaxC w) : Calls Tryz.prog 25 #[.agg #[.int .i64 s.k, .string s.g, .string s.n, .string s.d]] w fun e w' => PutP (spPut s) e ∧ Own [] w w' := by
  obtain ⟨R, hR⟩ : ∃ R, spPut s = R := ⟨_, rfl⟩
  rw [hR]
  unfold spPut at hR
  have hO1 : Own [] w (w.alloc (.cells #[.int .i64 s.k, .string s.g, .string s.n, .string s.d] 49)) := (Own.refl _ _).alloc _
  have hb := heap_alloc_new w (.cells #[.int .i64 s.k, .string s.g, .string s.n, .string s.d] 49)
  obtain ⟨f0, f1, f2, f3⟩ := blkS hb
  have cW := Lib.hid (fun W => width_any s.k W)
  have cP := Lib.hid (parts_any s (w.alloc (.cells #[.int .i64 s.k, .string s.g, .string s.n, .string s.d] 49)) (hW.own hO1))
  replace hO1 := Lib.hid hO1
  clear hb
  by_cases hk : s.k < 1 ∨ 9 < s.k
  · rw [if_pos hk] at hR
    subst hR
    have hk2 : s.k < 1 ∨ (¬ s.k < 1 ∧ 9 < s.k) := by omega
    clear hk cP cW
    rcases hk2 with h | ⟨h, h'⟩
    all_goals
      generalize s.k = k at *
      go_enter Tryz.func25, Tryz.ntmps25
      go_wp2_with fail
      go_ret2
      exact ⟨putP_err 11, hO1.out⟩
  · rw [if_neg hk] at hR
    have hk1 : ¬ s.k < 1 := fun h => hk (.inl h)
    have hk9 : ¬ 9 < s.k := fun h => hk (.inr h)
    by_cases h4 : (spWidth s.k < 5 ∧ s.d.size ≠ 0) ∨ (s.k = 9 ∧ s.g.size ≠ 0)
    · rw [if_pos h4] at hR
      subst hR
      obtain ⟨wd, hwd⟩ : ∃ wd, spWidth s.k = wd := ⟨_, rfl⟩
      have hw9 : s.k = 9 → wd = 3 := fun h => by rw [← hwd]; unfold spWidth; rw [if_pos h]
      rw [hwd] at cW h4
      rcases empty_iff s.d with ⟨d0, d1, d2⟩ | ⟨d0, d1⟩
      · have h9 : s.k = 9 ∧ s.g.size ≠ 0 := by rcases h4 with h | h; exact absurd d0 h.2; exact h
        have w3 := hw9 h9.1
        rcases empty_iff s.g with ⟨g0, _⟩ | ⟨g0, g1⟩
        · exact absurd g0 h9.2
        · have q1 : (s.k == 9) = true := by simpa using h9.1
          rw [w3] at cW
          clear h4 hw9 h9 w3 hwd cP hk d0 g0
          generalize s.k = k at *
          generalize s.d = d at *
          generalize s.g = g at *
          go_enter Tryz.func25, Tryz.ntmps25
          go_wp2_with (go_at_call 54; ((with_reducible refine (cW.out _).mono ?_); rintro e w2 ⟨rfl, rfl⟩))
          go_ret2
          exact ⟨putP_err 4, hO1.out⟩
      · by_cases h5 : wd < 5
        · have q1 : decide (wd < 5) = true := by simpa using h5
          clear h4 hw9 hwd cP hk d0
          generalize s.k = k at *
          generalize s.d = d at *
          go_enter Tryz.func25, Tryz.ntmps25
          go_wp2_with (go_at_call 54; ((with_reducible refine (cW.out _).mono ?_); rintro e w2 ⟨rfl, rfl⟩))
          go_ret2
          exact ⟨putP_err 4, hO1.out⟩
        · exact absurd h4 (by
            rintro (h | h)
            · exact h5 h.1
            · have := hw9 h.1; omega)
    · rw [if_neg h4] at hR
      obtain ⟨wd, hwd⟩ : ∃ wd, spWidth s.k = wd := ⟨_, rfl⟩
      rw [hwd] at cW h4
      have hC1 : decide (wd < 5) = false ∨ (decide (wd < 5) = true ∧ s.d.toList.isEmpty = true ∧ s.d.toList = []) := by
        by_cases h5 : wd < 5
        · rcases empty_iff s.d with ⟨d0, d1, d2⟩ | ⟨d0, d1⟩
          · exact .inr ⟨by simpa using h5, d1, d2⟩
          · exact absurd (.inl ⟨h5, d0⟩) h4
        · exact .inl (by simpa using h5)
      have hC2 : (s.k == 9) = false ∨ ((s.k == 9) = true ∧ s.g.toList.isEmpty = true ∧ s.g.toList = []) := by
        by_cases h9 : s.k = 9
        · rcases empty_iff s.g with ⟨d0, d1, d2⟩ | ⟨d0, d1⟩
          · exact .inr ⟨by simpa using h9, d1, d2⟩
          · exact absurd (.inr ⟨h9, d0⟩) h4
        · exact .inl (by simpa using h9)
      have hJ := @put_join s
      obtain ⟨A, hA⟩ : ∃ A, spAll s = A := ⟨_, rfl⟩
      obtain ⟨F, hF⟩ : ∃ F, spFree s = F := ⟨_, rfl⟩
      rw [hA] at hR hJ cP
      rw [hF] at hR hJ cP
      have hFl : F.length ≤ 3 := by rw [← hF]; unfold spFree; split; simp; split <;> simp
      have hAl : A.length ≤ 5 := by rw [← hA]; unfold spAll; split; simp; split <;> simp
      have hst : (F.drop 0).all spPart = F.all spPart := by rw [List.drop_zero]
      obtain ⟨al, hal⟩ : ∃ al, F.all spPart = al := ⟨_, rfl⟩
      rw [hal] at hR hJ hst
      replace hst := Lib.hid hst
      replace hJ := Lib.hid hJ
      replace hR := Lib.hid hR
      clear h4 hwd hk hA hF hal
      generalize s.k = k at *
      generalize s.g = g at *
      generalize s.d = d at *
      rcases hC1 with c1 | ⟨c1, c2, c3⟩
      all_goals
        rcases hC2 with k1 | ⟨k1, k2, k3⟩
        all_goals
          go_enter Tryz.func25, Tryz.ntmps25
          go_wp2_with (first
            | (go_at_call 54; ((with_reducible refine (cW.out _).mono ?_); rintro e w2 ⟨rfl, rfl⟩))
            | (go_at_call 55; ((with_reducible refine cP.out.mono ?_); rintro e w3 ⟨a1, b1, rfl, hRA, hRF, hO3⟩; replace hO3 := Lib.hid (hO1.out.trans hO3); replace hRA := Lib.hid hRA; replace hRF := Lib.hid hRF; clear cP cW f0 f1 f2 f3)))
          go_loopg [7, 41] F.length (fun g _ s41 wr => ∃ i : Nat, s41 = .int .i64 i ∧ i + g = F.length ∧ Aside (Own [] w wr ∧ Own [] w3 wr ∧ (F.drop i).all spPart = al))
          case atStart => exact ⟨0, rfl, by simp, hO3.out, Own.refl _ _, hst.out⟩
          case round =>
            obtain ⟨i, rfl, hg, hO, hO4, hF⟩ := hrel
            have hw1 : IntKind.i64.wrap ((i : Int) + 1) = ((i + 1 : Nat) : Int) := by rw [IntKind.wrap_i64]; omega
            clear hst
            by_cases hlt : i < F.length
            · have h1 : (i : Int) < F.length := by omega
              have h0 : (0 : Int) ≤ i := by omega
              obtain ⟨x, hx⟩ : ∃ x, F[i]? = some x := ⟨_, List.getElem?_eq_getElem hlt⟩
              obtain ⟨b0, o0, hb0, hC⟩ := (hRF.out.nil' hO4).at_ (k := 1) lEnc_len (by omega)
              cases hb0
              have cc : wr.cell? ⟨b1, 0 + i, none⟩ = some (.string x) := by simpa using hC i x 0 (.string x) hx rfl
              rw [Nat.zero_add] at cc
              have hd : F.drop i = x :: F.drop (i + 1) := by
                obtain ⟨hl, rfl⟩ := List.getElem?_eq_some_iff.1 hx
                exact List.drop_eq_getElem_cons hl
              rw [hd, List.all_cons] at hF
              have cX := Lib.hid (part_any x wr (hT.own hO (by simp)) (hM.own hO))
              replace hg := Lib.hid hg
              replace hx := Lib.hid hx
              replace hd := Lib.hid hd
              replace hO := Lib.hid hO
              replace hO4 := Lib.hid hO4
              clear hC
              cases hp : spPart x with
              | false =>
                rw [hp] at hF cX
                have ha : al = false := by rw [← hF]; rfl
                have e1 : R = (⟨#[]⟩, 13) := by rw [← hR.out, if_pos ha]
                replace e1 := Lib.hid e1
                clear hF hp ha
                go_wp2_with fail
                with_reducible refine cX.out.mono ?_
                rintro e w5 ⟨rfl, hO5⟩
                replace hO5 := Lib.hid (hO.out.trans hO5)
                go_wp2_with fail
                go_ret2
                exact ⟨by rw [e1.out]; exact putP_err 13, hO5.out⟩
              | true =>
                rw [hp] at hF cX
                have hF2 := Lib.hid (show (F.drop (i + 1)).all spPart = al by rw [← hF]; simp)
                clear hF hp
                go_wp2_with fail
                with_reducible refine cX.out.mono ?_
                rintro e w5 ⟨rfl, hO5⟩
                have hO6 := Lib.hid (hO4.out.trans hO5)
                replace hO5 := Lib.hid (hO.out.trans hO5)
                go_wp2_with fail
                go_roundg (F.length - (i + 1))
                case rel => exact ⟨i + 1, by go_num, by omega, hO5.out, hO6.out, hF2.out⟩
                case measure => have := hg.out; omega
            · have h1 : ¬ (i : Int) < F.length := by omega
              rw [List.drop_of_length_le (by omega)] at hF
              have ha : al = true := by rw [← hF]; rfl
              have eR : R = if lvName (joinB A) = true then (joinB A, 0) else (⟨#[]⟩, 13) := by rw [← hR.out, if_neg (by rw [ha]; simp)]
              have cJ := Lib.hid (join_any A _ wr (hRA.out.nil' hO4) (fun a n c e => by cases e; exact Nat.le_refl _) (by omega) (hJ.out ha))
              have cM := Lib.hid (fun W (h : Tabs W) => name_any (joinB A) W h)
              replace hO := Lib.hid hO
              clear hF hg ha hO4
              cases hn : lvName (joinB A) with
              | false =>
                rw [hn] at eR cM
                replace eR := Lib.hid eR
                go_wp2_with fail
                with_reducible refine cJ.out.mono ?_
                rintro e w5 ⟨rfl, hO5⟩
                replace hO5 := Lib.hid (hO.out.trans hO5)
                go_wp2_with fail
                with_reducible refine (cM.out _ (by exact hT.own hO5.out (by simp))).mono ?_
                rintro e w6 ⟨rfl, hO6⟩
                replace hO6 := Lib.hid (hO5.out.trans hO6)
                go_wp2_with fail
                go_ret2
                exact ⟨by rw [eR.out, if_neg (by simp)]; exact putP_err 13, hO6.out⟩
              | true =>
                rw [hn] at eR cM
                replace eR := Lib.hid eR
                go_wp2_with fail
                with_reducible refine cJ.out.mono ?_
                rintro e w5 ⟨rfl, hO5⟩
                replace hO5 := Lib.hid (hO.out.trans hO5)
                go_wp2_with fail
                with_reducible refine (cM.out _ (by exact hT.own hO5.out (by simp))).mono ?_
                rintro e w6 ⟨rfl, hO6⟩
                replace hO6 := Lib.hid (hO5.out.trans hO6)
                go_wp2_with fail
                go_ret2
                exact ⟨by rw [eR.out, if_pos trivial]; exact putP_ok _, hO6.out⟩
end Go.Proofs.YtecociaolohfmaaGreatDoor
