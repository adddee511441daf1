/- Runes and bytes: plain. (Out of XPlainLv.) -/
import Derived.Test.YtnppgidbfmbdgaaDoorScriptNum
import Derived.Lib.ValidU
import Derived.Lib.MapLaws
import Derived.Laws.RangeAny
import Derived.Laws.RangeString
import Derived.Deep.LoopGhost
set_option linter.unusedVariables false
set_option linter.unusedSimpArgs false
namespace Go.Proofs.YtnppgidbfmbdgaaDoor
open Go.RowKit Go.Lib

theorem get_is2 (s : ByteArray) (j : Nat) (h : j < s.size) : s.get! j = s[j]'h := by
  show s.data[j]! = s.data[j]'h
  exact getElem!_pos s.data j h
/-- A rune below 128 is its byte; the others' bytes are not below. -/
theorem dec_low {s : ByteArray} {i : Nat} (hi : i < s.size) : 1 ≤ (Utf8.decode s i).2 ∧ i + (Utf8.decode s i).2 ≤ s.size ∧
    (((Utf8.decode s i) = ((s.get! i).toNat, 1) ∧ (s.get! i).toNat < 128) ∨ (128 ≤ (Utf8.decode s i).1 ∧ ∀ j, i ≤ j → j < i + (Utf8.decode s i).2 → 128 ≤ (s.get! j).toNat)) := by
  have hsh := Lib.decodeN_shape (s.size - i) (s.get! i).toNat (s.get! (i + 1)).toNat (s.get! (i + 2)).toNat (s.get! (i + 3)).toNat
  rw [← Lib.decode_at] at hsh
  by_cases hb : (s.get! i).toNat < 128
  · have e : Utf8.decode s i = ((s.get! i).toNat, 1) := by
      have h1 := decode_ascii s i hi (by rw [← get_is2 s i hi]; exact hb)
      rw [h1, ← get_is2 s i hi]
    rw [e]
    exact ⟨Nat.le_refl _, hi, .inl ⟨rfl, hb⟩⟩
  · rcases hsh with ⟨h, _⟩ | ⟨h0, h1, h2, h3, h4⟩ | ⟨h0, h1, h2, h3, h4, _, h5⟩ | ⟨h0, h1, h2, h3, h4, h5, _, h6⟩ | h
    · omega
    · rw [h4]
      refine ⟨by simp, by simp; omega, .inr ⟨by simp; omega, fun j a b => ?_⟩⟩
      have : j = i ∨ j = i + 1 := by simp at b; omega
      rcases this with rfl | rfl <;> omega
    · rw [h5]
      refine ⟨by simp, by simp; omega, .inr ⟨by simp; omega, fun j a b => ?_⟩⟩
      have : j = i ∨ j = i + 1 ∨ j = i + 2 := by simp at b; omega
      rcases this with rfl | rfl | rfl <;> omega
    · rw [h6]
      refine ⟨by simp, by simp; omega, .inr ⟨by simp; omega, fun j a b => ?_⟩⟩
      have : j = i ∨ j = i + 1 ∨ j = i + 2 ∨ j = i + 3 := by simp at b; omega
      rcases this with rfl | rfl | rfl | rfl <;> omega
    · rw [h]
      refine ⟨Nat.le_refl _, by simp; omega, .inr ⟨by simp, fun j a b => ?_⟩⟩
      obtain rfl : j = i := by simp at b; omega
      omega
/-- What the program's number comes to. -/
def NumP (o : Option Nat) (e : Ending) : Prop := ∃ (n : Int) (b : Bool), e = .returned (.tuple #[.int .i64 n, .bool b]) ∧ b = o.isSome ∧ ∀ m, o = some m → n = m
theorem numP_no (n : Int) : NumP none (.returned (.tuple #[.int .i64 n, .bool false])) := ⟨n, false, rfl, rfl, fun m h => by cases h⟩
theorem numP_yes (n : Nat) : NumP (some n) (.returned (.tuple #[.int .i64 n, .bool true])) := ⟨n, true, rfl, rfl, fun m h => by cases h; rfl⟩
set_option maxRecDepth 100000 in
set_option maxHeartbeats 4000000 in
theorem number_any (s : ByteArray) (w : World) : Calls Tryd.prog 34 #[.string s] w fun e w' => NumP (scNum s) e ∧ Own [] w w' := by
  by_cases c1 : s.size < 1
  · have e1 : scNum s = none := by unfold scNum; rw [if_pos (.inl c1)]
    rw [e1]
    have k1 : (s.toList == []) = true := by
      have h0 : s.size = 0 := by omega
      have : s.toList = [] := by
        have h2 := Lib.size_eq s
        have h3 : s.data.toList = [] := List.eq_nil_of_length_eq_zero (by omega)
        simpa [ByteArray.toList_eq] using h3
      rw [this]; rfl
    go_enter Tryd.func34, Tryd.ntmps34
    go_wp2_with fail
    go_ret2
    exact ⟨numP_no _, Own.refl _ _⟩
  · have hne : s.toList ≠ [] := fun h => by
      have h2 := Lib.size_eq s
      have h3 : s.data.toList = [] := by simpa [ByteArray.toList_eq] using h
      have h4 : s.size = 0 := by rw [h2, h3]; rfl
      omega
    have k1 : (s.toList == []) = false := by simpa using hne
    clear hne
    by_cases c2 : 10 < s.size
    · have e1 : scNum s = none := by unfold scNum; rw [if_pos (.inr (.inl c2))]
      rw [e1]
      have k3 : (10 : Int) < (s.size : Int) := by omega
      have k4 : decide ((10 : Int) < (s.size : Int)) = true := by simpa using k3
      clear e1
      go_enter Tryd.func34, Tryd.ntmps34
      go_wp2_with fail
      go_ret2
      exact ⟨numP_no _, Own.refl _ _⟩
    · have k3 : ¬ (10 : Int) < (s.size : Int) := by omega
      have k4 : decide ((10 : Int) < (s.size : Int)) = false := by simpa using k3
      have hp : 0 < s.size := by omega
      have he0 : ((s[0]'hp).toNat : Int) = ((s.get! 0).toNat : Int) := by rw [get_at s 0 hp]
      have k5 : (0 : Int) < (s.size : Int) := by omega
      by_cases c3 : (s.get! 0).toNat = 48 ∧ 1 < s.size
      · have e1 : scNum s = none := by unfold scNum; rw [if_pos (.inr (.inr c3))]
        rw [e1]
        have h48 : ((s[0]'hp).toNat : Int) = 48 := by rw [he0, c3.1]; rfl
        have k6 : (1 : Int) < (s.size : Int) := by have := c3.2; omega
        have k7 : decide ((1 : Int) < (s.size : Int)) = true := by simpa using k6
        clear he0 c3 e1
        go_enter Tryd.func34, Tryd.ntmps34
        go_wp2_with fail
        go_ret2
        exact ⟨numP_no _, Own.refl _ _⟩
      · have e1 : scNum s = match numF s s.size 0 0 with | some n => if n ≤ 1073741824 then some n else none | none => none := by unfold scNum; rw [if_neg (by omega)]; rfl
        rw [e1]
        have hs10 : s.size ≤ 10 := by omega
        have hq : (((s[0]'hp).toNat : Int) == 48) = true ∧ decide ((1 : Int) < (s.size : Int)) = false ∨ (((s[0]'hp).toNat : Int) == 48) = false := by
          by_cases h48 : (s.get! 0).toNat = 48
          · refine .inl ⟨by rw [he0, h48]; rfl, ?_⟩
            have : ¬ 1 < s.size := fun h => c3 ⟨h48, h⟩
            simp; omega
          · refine .inr ?_
            rw [he0]
            simp; omega
        obtain ⟨r, hr⟩ : ∃ r, numF s s.size 0 0 = r := ⟨_, rfl⟩
        rw [hr]
        have hF0 := Lib.hid (show numF s (s.size - 0) 0 0 = r by rw [Nat.sub_zero]; exact hr)
        clear c3 e1 he0 c1 c2 hr
        rcases hq with ⟨q1, q2⟩ | q1
        all_goals
          go_enter Tryd.func34, Tryd.ntmps34
          go_wp2_with fail
          go_loopg [4, 6] s.size (fun g s4 _ wr => ∃ (acc i : Nat), s4 = .int .i64 acc ∧ wr = w.iter s i ∧ g = s.size - i ∧ i ≤ s.size ∧ acc < 10 ^ i ∧ Aside (numF s (s.size - i) i acc = r))
          case atStart => exact ⟨0, 0, rfl, rfl, rfl, Nat.zero_le _, by simp, hF0.out⟩
          case round =>
            obtain ⟨acc, i, rfl, rfl, rfl, hi, hacc, hF⟩ := hrel
            have hpi := pow_le_10 (show i ≤ 10 by omega)
            have ha10 : acc < 10000000000 := by omega
            clear hF0 q1 k5
            by_cases hlt : i < s.size
            · obtain ⟨hw1, hw2, hdc⟩ := dec_low hlt
              have hkk : s.size - i = (s.size - (i + 1)) + 1 := by omega
              rw [hkk] at hF
              unfold numF at hF
              rcases hdc with ⟨hdc, hlow⟩ | ⟨hhi, hall⟩
              · have he : ((s[i]'hlt).toNat : Int) = ((s.get! i).toNat : Int) := by rw [get_at s i hlt]
                have hnx : ∀ ty, (Instr.next (.pointer (some ⟨w.heap.size, 0, none⟩)) true ty).run Tryd.prog (w.iter s i) = _ := fun ty => run_next_ascii w s i ty hlt (by rw [← get_at s i hlt]; exact hlow)
                by_cases hd : 48 ≤ (s.get! i).toNat ∧ (s.get! i).toNat ≤ 57
                · rw [if_pos hd] at hF
                  have r1 : decide (((s[i]'hlt).toNat : Int) < 48) = false := by rw [he]; simp; omega
                  have r2 : decide ((57 : Int) < ((s[i]'hlt).toNat : Int)) = false := by rw [he]; simp; omega
                  have hac2 : 10 * acc + (s.get! i).toNat - 48 < 10 ^ (i + 1) := by rw [Nat.pow_succ]; omega
                  have w1 : IntKind.i64.wrap (10 * (acc : Int)) = 10 * acc := IntWalk.i64_in _ (by omega)
                  have w2 : IntKind.i32.wrap (((s[i]'hlt).toNat : Int) - 48) = ((s[i]'hlt).toNat : Int) - 48 := by rw [IntKind.wrap_i32]; rw [he]; omega
                  have w3 : IntKind.i64.wrap (((s[i]'hlt).toNat : Int) - 48) = ((s[i]'hlt).toNat : Int) - 48 := IntWalk.i64_in _ (by rw [he]; omega)
                  have w4 : IntKind.i64.wrap (10 * (acc : Int) + (((s[i]'hlt).toNat : Int) - 48)) = 10 * acc + (((s[i]'hlt).toNat : Int) - 48) := IntWalk.i64_in _ (by rw [he]; omega)
                  have w5 : (10 * (acc : Int) + (((s[i]'hlt).toNat : Int) - 48)) = ((10 * acc + (s.get! i).toNat - 48 : Nat) : Int) := by rw [he]; omega
                  replace hF := Lib.hid hF
                  replace hac2 := Lib.hid hac2
                  replace he := Lib.hid he
                  replace w5 := Lib.hid w5
                  replace hdc := Lib.hid hdc
                  clear hd hacc hpi ha10 hkk hw1 hw2 hlow
                  go_wp2_with fail
                  go_roundg (s.size - (i + 1))
                  case measure => omega
                  case rel => exact ⟨10 * acc + (s.get! i).toNat - 48, i + 1, by simp [w1, w2, w3, w4, w5.out], rfl, rfl, by omega, hac2.out, hF.out⟩
                · rw [if_neg hd] at hF
                  subst hF
                  have hdd : (decide (((s[i]'hlt).toNat : Int) < 48) = true) ∨ (decide (((s[i]'hlt).toNat : Int) < 48) = false ∧ decide ((57 : Int) < ((s[i]'hlt).toNat : Int)) = true) := by
                    rw [he]
                    by_cases h : (s.get! i).toNat < 48
                    · exact .inl (by simp; omega)
                    · exact .inr ⟨by simp; omega, by simp; omega⟩
                  replace he := Lib.hid he
                  replace hdc := Lib.hid hdc
                  clear hd hkk hw1 hw2 hlow
                  rcases hdd with r1 | ⟨r1, r2⟩
                  all_goals
                    go_wp2_with fail
                    go_ret2
                    exact ⟨numP_no _, (Own.refl [] w).alloc (.stringIter s (i + 1))⟩
              · have hd := hall i (Nat.le_refl _) (by omega)
                rw [if_neg (by omega)] at hF
                subst hF
                have hnx : ∀ ty, (Instr.next (.pointer (some ⟨w.heap.size, 0, none⟩)) true ty).run Tryd.prog (w.iter s i) = _ := fun ty => run_next_any w s i ty hlt
                generalize hdd : Utf8.decode s i = dd at *
                obtain ⟨d1, d2⟩ := dd
                simp only at hhi hnx
                have r1 : decide ((d1 : Int) < 48) = false := by simp; omega
                have r2 : decide ((57 : Int) < (d1 : Int)) = true := by simp; omega
                clear hall hd hkk hw1 hw2 hdd
                go_wp2_with fail
                go_ret2
                exact ⟨numP_no _, (Own.refl [] w).alloc (.stringIter s (i + d2))⟩
            · obtain rfl : i = s.size := by omega
              rw [Nat.sub_self] at hF
              unfold numF at hF
              subst hF
              have hnx : ∀ ty, (Instr.next (.pointer (some ⟨w.heap.size, 0, none⟩)) true ty).run Tryd.prog (w.iter s s.size) = _ := fun ty => run_next_end w s s.size ty hlt
              by_cases hm : acc ≤ 1073741824
              · have m1 : decide ((acc : Int) ≤ 1073741824) = true := by simp; omega
                go_wp2_with fail
                go_ret2
                exact ⟨by simp only [if_pos hm]; exact numP_yes _, (Own.refl [] w).alloc (.stringIter s s.size)⟩
              · have m1 : decide ((acc : Int) ≤ 1073741824) = false := by simp; omega
                go_wp2_with fail
                go_ret2
                exact ⟨by simp only [if_neg hm]; exact numP_no _, (Own.refl [] w).alloc (.stringIter s s.size)⟩
end Go.Proofs.YtnppgidbfmbdgaaDoor
