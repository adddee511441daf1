/- Scripts (chapter 40): a word's bytes: the document's. -/
import Derived.Test.YtnppgidbfmbdgaaDoorScriptHex
import Derived.Deep.LoopGhost
set_option linter.unusedSimpArgs false
set_option linter.unusedVariables false
namespace Go.Proofs.YtnppgidbfmbdgaaDoor
open Go.RowKit

def halfAt (s : ByteArray) (i : Nat) : Int := scHalf (s.get! i).toNat
/-- The bytes of k pairs of signs from place i on. -/
def rawF (s : ByteArray) : Nat → Nat → Option (List UInt8)
  | 0, _ => some []
  | k + 1, i => if halfAt s i < 0 ∨ halfAt s (i + 1) < 0 then none else (rawF s k (i + 2)).map fun l => UInt8.ofNat (16 * halfAt s i + halfAt s (i + 1)).toNat :: l
/-- A word's bytes. -/
def scRaw (s : ByteArray) : Option (List UInt8) := if s.toList = [45] then some [] else if s.size = 0 ∨ s.size % 2 ≠ 0 then none else rawF s (s.size / 2) 0
def RawP (o : Option (List UInt8)) (e : Ending) : Prop := e = match o with
  | some l => .returned (.tuple #[.string ⟨l.toArray⟩, .bool true])
  | none => .returned (.tuple #[.string ⟨#[]⟩, .bool false])
theorem rawP_no : RawP none (.returned (.tuple #[.string ⟨#[]⟩, .bool false])) := rfl
theorem rawP_yes (l : List UInt8) : RawP (some l) (.returned (.tuple #[.string ⟨l.toArray⟩, .bool true])) := rfl
theorem scHalf_bd (c : Int) : -1 ≤ scHalf c ∧ scHalf c ≤ 15 := by
  unfold scHalf
  split
  · omega
  · split <;> omega
set_option maxRecDepth 100000 in
set_option maxHeartbeats 4000000 in
theorem rraw_any (s : ByteArray) (hs : s.size ≤ 140737488351232) (w : World) : Calls Tryd.prog 26 #[.string s] w fun e w' => RawP (scRaw s) e ∧ Own [] w w' := by
  by_cases c1 : s.toList = [45]
  · have e1 : scRaw s = some [] := by unfold scRaw; rw [if_pos c1]
    rw [e1]
    have k1 : (s.toList == [45]) = true := by rw [c1]; rfl
    clear c1 e1
    go_enter Tryd.func26, Tryd.ntmps26
    go_wp2_with fail
    go_ret2
    exact ⟨rawP_yes [], Own.refl _ _⟩
  · have k1 : (s.toList == [45]) = false := by simpa using c1
    by_cases c2 : s.size = 0
    · have e1 : scRaw s = none := by unfold scRaw; rw [if_neg c1, if_pos (.inl c2)]
      rw [e1]
      have k2 : ((s.size : Int) == 0) = true := by rw [c2]; rfl
      clear c1 e1
      go_enter Tryd.func26, Tryd.ntmps26
      go_wp2_with fail
      go_ret2
      exact ⟨rawP_no, Own.refl _ _⟩
    · have k2 : ((s.size : Int) == 0) = false := beq_eq_false_iff_ne.2 (by omega)
      by_cases c3 : s.size % 2 = 0
      · have m1 : (s.size : Int).tmod 2 = 0 := by rw [Int.tmod_eq_emod_of_nonneg (by omega)]; omega
        have m2 : (s.size : Int) % 2 = 0 := by omega
        obtain ⟨n, hn⟩ : ∃ n, s.size = 2 * n := ⟨s.size / 2, by omega⟩
        have e1 : scRaw s = rawF s n 0 := by unfold scRaw; rw [if_neg c1, if_neg (by omega), show s.size / 2 = n by omega]
        rw [e1]
        obtain ⟨r, hr⟩ : ∃ r, rawF s n 0 = r := ⟨_, rfl⟩
        rw [hr]
        have hR0 := Lib.hid (show (rawF s (n - 0) (2 * 0)).map (fun l => ([] : List UInt8) ++ l) = r by rw [← hr]; simp)
        have hn0 : 0 < n := by omega
        replace hn := Lib.hid hn
        clear c1 c2 c3 e1 hr
        go_enter Tryd.func26, Tryd.ntmps26
        go_wp2_with fail
        go_loopg [4, 5, 6, 7] n (fun g s4 s5 _ _ wr => ∃ (k : Nat) (v : Value) (T : List UInt8), s4 = v ∧ s5 = .int .i64 ((2 * k : Nat) : Int) ∧ k + g = n ∧ T.length = k ∧ Aside (Sl 5 bEnc 1 w.heap.size wr v T ∧ Own [] w wr ∧ (rawF s (n - k) (2 * k)).map (fun l => T ++ l) = r))
        case atStart => exact ⟨0, _, [], rfl, rfl, by simp, rfl, Sl.nil _ _ _, Own.refl _ _, hR0.out⟩
        case round =>
          obtain ⟨k, v, T, rfl, rfl, hk, hT, hS, hO, hF⟩ := hrel
          obtain ⟨a1, cc, rfl⟩ := hS.sl
          clear hR0 m1 m2 k1 k2
          have hn1 := hn.out
          obtain ⟨i, hi⟩ : ∃ i, 2 * k = i := ⟨_, rfl⟩
          rw [hi] at hF ⊢
          by_cases hlt : k < n
          · have l1 : i < s.size := by omega
            have l2 : i + 1 < s.size := by omega
            have z1 : (i : Int) < s.size := by omega
            have z2 : (i : Int) + 1 < s.size := by omega
            have z3 : (0 : Int) ≤ i := by omega
            have cA := fun W => rhalf_any ((s[i]'l1).toNat : Int) (by omega) (by have := (s[i]'l1).toNat_lt; omega) W
            have cB := fun W => rhalf_any ((s[i + 1]'l2).toNat : Int) (by omega) (by have := (s[i + 1]'l2).toNat_lt; omega) W
            have eA : scHalf ((s[i]'l1).toNat : Int) = halfAt s i := by unfold halfAt; rw [get_at s i l1]
            have eB : scHalf ((s[i + 1]'l2).toNat : Int) = halfAt s (i + 1) := by unfold halfAt; rw [get_at s (i + 1) l2]
            rw [eA] at cA
            rw [eB] at cB
            have bA : -1 ≤ halfAt s i ∧ halfAt s i ≤ 15 := scHalf_bd _
            have bB : -1 ≤ halfAt s (i + 1) ∧ halfAt s (i + 1) ≤ 15 := scHalf_bd _
            rw [show n - k = (n - (k + 1)) + 1 by omega] at hF
            unfold rawF at hF
            generalize halfAt s i = A at *
            generalize halfAt s (i + 1) = B at *
            have hl1 := Lib.hid (show (T.length + 1) * 1 ≤ 140737488355328 by omega)
            have hl2 := Lib.hid (show T.length + 1 ≤ maxLen by unfold maxLen; omega)
            have hn2 : n ≤ 140737488351232 := by omega
            clear hn1
            clear eA eB
            replace cA := Lib.hid cA
            replace cB := Lib.hid cB
            replace hO := Lib.hid hO
            replace hi := Lib.hid hi
            replace hk := Lib.hid hk
            replace hT := Lib.hid hT
            by_cases hA : A < 0
            · rw [if_pos (.inl hA)] at hF
              have r1 : decide (A < 0) = true := by simpa using hA
              have hF2 : (none : Option (List UInt8)) = r := hF
              subst hF2
              clear hS hF bA bB
              go_wp2_with (first
                | (go_at_call 36; ((with_reducible refine (cA.out _).mono ?_); rintro e w2 ⟨rfl, rfl⟩))
                | (go_at_call 36; ((with_reducible refine (cB.out _).mono ?_); rintro e w2 ⟨rfl, rfl⟩)))
              go_ret2
              exact ⟨rawP_no, hO.out⟩
            · have r1 : decide (A < 0) = false := by simpa using hA
              by_cases hB : B < 0
              · rw [if_pos (.inr hB)] at hF
                have r2 : decide (B < 0) = true := by simpa using hB
                have hF2 : (none : Option (List UInt8)) = r := hF
                subst hF2
                clear hS hF bA bB
                go_wp2_with (first
                | (go_at_call 36; ((with_reducible refine (cA.out _).mono ?_); rintro e w2 ⟨rfl, rfl⟩))
                | (go_at_call 36; ((with_reducible refine (cB.out _).mono ?_); rintro e w2 ⟨rfl, rfl⟩)))
                go_ret2
                exact ⟨rawP_no, hO.out⟩
              · rw [if_neg (by omega)] at hF
                have r2 : decide (B < 0) = false := by simpa using hB
                obtain ⟨x, hx⟩ : ∃ x : UInt8, UInt8.ofNat (16 * A + B).toNat = x := ⟨_, rfl⟩
                rw [hx] at hF
                have x0 : (16 * A + B).toNat < 256 := by omega
                have x1 : (x.toNat : Int) = 16 * A + B := by
                  rw [← hx, UInt8.toNat_ofNat_of_lt' x0]; omega
                have x2 : IntKind.u8.wrap (16 * A + B) = (x.toNat : Int) := by
                  have := x.toNat_lt
                  rw [← x1]; exact IntWalk.u8_in _ (by omega)
                have hF3 := Lib.hid (show (rawF s (n - (k + 1)) (i + 2)).map (fun l => (T ++ [x]) ++ l) = r by
                  rw [← hF, Option.map_map]
                  congr 1
                  funext l
                  simp)
                have hOb : Own [] w (wr.alloc (.cells #[.int .u8 x.toNat] 5)) := hO.out.alloc _
                have hSb : Sl 5 bEnc 1 w.heap.size (wr.alloc (.cells #[.int .u8 x.toNat] 5)) (.slice a1 T.length cc) T := hS.nil' ((Own.refl [] wr).alloc _)
                have hRb := Reads.new (enc := bEnc) (T := 5) wr x 1
                replace hOb := Lib.hid hOb
                replace hSb := Lib.hid hSb
                replace hRb := Lib.hid hRb
                replace x1 := Lib.hid x1
                clear hS hF hx x0
                go_wp2_with (first
                  | (go_at_call 36; ((with_reducible refine (cA.out _).mono ?_); rintro e w2 ⟨rfl, rfl⟩))
                  | (go_at_call 36; ((with_reducible refine (cB.out _).mono ?_); rintro e w2 ⟨rfl, rfl⟩))
                  | (at_builtin; refine wpList_append_new rfl (.tmp 41) (.tmp 47) rfl bElem hOb.out rfl hSb.out rfl hRb.out hl1.out hl2.out ?_; intro va w5 hS5 hO5 _ _; replace hS5 := Lib.hid hS5; replace hO5 := Lib.hid hO5))
                go_roundg (n - (k + 1))
                case rel =>
                  exact ⟨k + 1, va, T ++ [x], rfl, by rw [show ((2 * (k + 1) : Nat) : Int) = (i : Int) + 2 by have := hi.out; omega], by have := hk.out; omega, by have := hT.out; simp; omega, hS5.out, hO5.out, by have := hi.out; rw [show 2 * (k + 1) = i + 2 by omega]; exact hF3.out⟩
                case measure => have := hk.out; omega
          · have hkn : k = n := by omega
            have hF0 : rawF s (n - k) i = some [] := by rw [hkn, Nat.sub_self]; rfl
            rw [hF0] at hF
            have hF2 : some T = r := by rw [← hF]; simp
            subst hF2
            have z2 : ¬ (i : Int) + 1 < s.size := by omega
            have z3 : i ≤ 140737488351232 := by omega
            have hne : T ≠ [] := by rintro rfl; have : 0 = k := hT; omega
            have hc := conv_sl Tryd.underlying57 Tryd.underlying9 hS hne
            replace hO := Lib.hid hO
            replace hi := Lib.hid hi
            replace hk := Lib.hid hk
            replace hT := Lib.hid hT
            clear hS hF hF0 hne hkn hlt hn1
            go_wp2_with fail
            go_ret2
            exact ⟨rawP_yes T, hO.out⟩
      · have e1 : scRaw s = none := by unfold scRaw; rw [if_neg c1, if_pos (.inr c3)]
        rw [e1]
        have m1 : (s.size : Int).tmod 2 = 1 := by rw [Int.tmod_eq_emod_of_nonneg (by omega)]; omega
        have m2 : (s.size : Int) % 2 = 1 := by omega
        clear c1 e1 c2
        go_enter Tryd.func26, Tryd.ntmps26
        go_wp2_with fail
        go_ret2
        exact ⟨rawP_no, Own.refl _ _⟩
end Go.Proofs.YtnppgidbfmbdgaaDoor
