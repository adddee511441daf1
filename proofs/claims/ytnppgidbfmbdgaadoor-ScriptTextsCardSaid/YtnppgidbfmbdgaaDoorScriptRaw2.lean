/- Scripts (chapter 40): a word's bytes: the program's. -/
import Derived.Test.YtnppgidbfmbdgaaDoorScriptRaw
import Derived.Deep.QuietTactic
import Derived.BigQuiet
set_option linter.unusedSimpArgs false
set_option linter.unusedVariables false
namespace Go.Proofs.YtnppgidbfmbdgaaDoor
open Go.RowKit

theorem size_toList (s : ByteArray) : s.toList.length = s.size := by rw [Lib.toList_data, Lib.size_eq]
theorem or_half : ∀ a b : Fin 16, bits BinOp.or IntKind.i64 ((a.val : Int) * 16) (b.val : Int) = 16 * (a.val : Int) + b.val := by decide +kernel
theorem or_half' (A B : Int) (a0 : 0 ≤ A) (a1 : A ≤ 15) (b0 : 0 ≤ B) (b1 : B ≤ 15) : bits BinOp.or IntKind.i64 (A * 16) B = 16 * A + B := by
  have := or_half ⟨A.toNat, by omega⟩ ⟨B.toNat, by omega⟩
  simp only at this
  rw [show ((A.toNat : Nat) : Int) = A by omega, show ((B.toNat : Nat) : Int) = B by omega] at this
  exact this
theorem Sl.of_owns {α : Type} {T : TypeId} {enc : α → List Value} {k B n : Nat} {w : World} {v : Value} (h : w.ownsRow B T k v n []) (hn : n = 0) : Sl T enc k B w v ([] : List α) := by subst hn; exact h
set_option maxRecDepth 100000 in
set_option maxHeartbeats 4000000 in
theorem raw_any (s : ByteArray) (hs : s.size ≤ 140737488351232) (w : World) : Calls Tryd.prog 35 #[.string s] w fun e w' => RawP (scRaw s) e ∧ Own [] w w' := by
  by_cases c1 : s.toList = [45]
  · have e1 : scRaw s = some [] := by unfold scRaw; rw [if_pos c1]
    rw [e1]
    have k1 : (s.toList == [45]) = true := by rw [c1]; rfl
    clear c1 e1
    go_enter Tryd.func35, Tryd.ntmps35
    go_wp2_with fail
    go_ret2
    exact ⟨rawP_yes [], Own.refl _ _⟩
  · have k1 : (s.toList == [45]) = false := by simpa using c1
    by_cases c2 : s.size = 0
    · have e1 : scRaw s = none := by unfold scRaw; rw [if_neg c1, if_pos (.inl c2)]
      rw [e1]
      have k3 : s.toList = [] := List.eq_nil_of_length_eq_zero (by rw [size_toList]; exact c2)
      have k2 : s.toList.isEmpty = true := by rw [k3]; rfl
      clear c1 e1
      go_enter Tryd.func35, Tryd.ntmps35
      go_wp2_with fail
      go_ret2
      exact ⟨rawP_no, Own.refl _ _⟩
    · have k2 : s.toList.isEmpty = false := by rw [List.isEmpty_eq_false_iff]; intro h; apply c2; rw [← size_toList, h]; rfl
      by_cases c3 : s.size % 2 = 0
      · have m1 : (s.size : Int).tmod 2 = 0 := by rw [Int.tmod_eq_emod_of_nonneg (by omega)]; omega
        have m2 : (s.size : Int) % 2 = 0 := by omega
        obtain ⟨n, hn⟩ : ∃ n, s.size = 2 * n := ⟨s.size / 2, by omega⟩
        have e1 : scRaw s = rawF s n 0 := by unfold scRaw; rw [if_neg c1, if_neg (by omega), show s.size / 2 = n by omega]
        rw [e1]
        obtain ⟨r, hr⟩ : ∃ r, rawF s n 0 = r := ⟨_, rfl⟩
        rw [hr]
        have hR0 := Lib.hid (show (rawF s (n - 0) (2 * 0)).map (fun l => ([] : List UInt8) ++ l) = r by rw [← hr]; simp)
        have hn0 : 0 < n := by omega
        have hq : (s.size : Int) / 2 = (n : Int) := by omega
        obtain ⟨inf, z, i1, i2, i3, i4, i5⟩ := bElem.info
        replace hn := Lib.hid hn
        have hn3 : n ≤ 140737488351232 := by have := hn.out; omega
        have b2 := Lib.hid (show inf.bytes * n ≤ 281474976710656 by rw [i4]; omega)
        have b3 := Lib.hid (show n ≤ maxLen by unfold maxLen; omega)
        replace i1 := Lib.hid i1
        replace i2 := Lib.hid i2
        replace i3 := Lib.hid i3
        clear c1 c2 c3 e1 hr i4 i5
        go_enter Tryd.func35, Tryd.ntmps35
        go_wp2_with (refine wpList_make_own _ rfl (.const (.int .i64 0)) (.tmp 20) _ rfl w.heap.size _ inf z 1 Tryd.underlying57 i1.out i2.out i3.out .i64 .i64 _ n rfl rfl (by omega) b2.out b3.out (by exact Nat.le_refl _) ?_; intro w1 hw1 hg1; have hS1 : Sl 5 bEnc 1 w.heap.size w1 _ ([] : List UInt8) := Sl.of_owns hw1 rfl; have hO1 : Own [] w w1 := ⟨hg1.os, hg1.tape, hg1.output, hg1.size, fun q hq hn => hg1.block q hq (by simp)⟩; replace hS1 := Lib.hid hS1; replace hO1 := Lib.hid hO1; clear hw1 hg1)
        go_loopg [4, 5, 6, 7] n (fun g s4 s5 _ _ wr => ∃ (k : Nat) (v : Value) (T : List UInt8), s4 = v ∧ s5 = .int .i64 ((2 * k : Nat) : Int) ∧ k + g = n ∧ T.length = k ∧ Aside (Sl 5 bEnc 1 w.heap.size wr v T ∧ Own [] w wr ∧ (rawF s (n - k) (2 * k)).map (fun l => T ++ l) = r))
        case atStart => exact ⟨0, _, [], rfl, rfl, by simp, rfl, hS1.out, hO1.out, hR0.out⟩
        case round =>
          obtain ⟨k, v, T, rfl, rfl, hk, hT, hS, hO, hF⟩ := hrel
          obtain ⟨a1, cc, rfl⟩ := hS.sl
          clear hR0 m1 m2 k1 k2 hS1 hO1 b2 b3 i1 i2 i3 hq
          have hn1 := hn.out
          obtain ⟨i, hi⟩ : ∃ i, 2 * k = i := ⟨_, rfl⟩
          rw [hi] at hF ⊢
          by_cases hlt : k < n
          · have l1 : i < s.size := by omega
            have l2 : i + 1 < s.size := by omega
            have z1 : (i : Int) < s.size := by omega
            have z2 : (i : Int) + 1 < s.size := by omega
            have z3 : (0 : Int) ≤ i := by omega
            have z4 : (0 : Int) ≤ (i : Int) + 1 := by omega
            have z5 : i ≤ 281474976702464 := by omega
            have y1 : IntKind.i64.wrap ((i : Int) + 1) = (i : Int) + 1 := IntWalk.i64_in _ (by omega)
            have y2 : ((i : Int) + 1).toNat = i + 1 := by omega
            have cA := fun W => half_any ((s[i]'l1).toNat : Int) (by omega) (by have := (s[i]'l1).toNat_lt; omega) W
            have cB := fun W => half_any ((s[i + 1]'l2).toNat : Int) (by omega) (by have := (s[i + 1]'l2).toNat_lt; omega) W
            have eA : scHalf ((s[i]'l1).toNat : Int) = halfAt s i := by unfold halfAt; rw [get_at s i l1]
            have eB : scHalf ((s[i + 1]'l2).toNat : Int) = halfAt s (i + 1) := by unfold halfAt; rw [get_at s (i + 1) l2]
            rw [eA] at cA
            rw [eB] at cB
            have bA : -1 ≤ halfAt s i ∧ halfAt s i ≤ 15 := scHalf_bd _
            have bB : -1 ≤ halfAt s (i + 1) ∧ halfAt s (i + 1) ≤ 15 := scHalf_bd _
            rw [show n - k = (n - (k + 1)) + 1 by omega] at hF
            unfold rawF at hF
            generalize halfAt s i = A at *
            generalize halfAt s (i + 1) = B at *
            have hl1 := Lib.hid (show (T.length + 1) * 1 ≤ 140737488355328 by omega)
            have hl2 := Lib.hid (show T.length + 1 ≤ maxLen by unfold maxLen; omega)
            have hn2 : n ≤ 140737488351232 := by omega
            clear hn1
            clear eA eB
            replace cA := Lib.hid cA
            replace cB := Lib.hid cB
            replace hO := Lib.hid hO
            replace hi := Lib.hid hi
            replace hk := Lib.hid hk
            replace hT := Lib.hid hT
            by_cases hA : A < 0
            · rw [if_pos (.inl hA)] at hF
              have r1 : decide (A < 0) = true := by simpa using hA
              have hF2 : (none : Option (List UInt8)) = r := hF
              subst hF2
              clear hS hF bA bB
              go_wp2_with fail
              go_quiet (first | (go_at_call 43; exact Calls.quiet_of_same ((cA.out _).mono (fun _ _ h => ⟨h.1, h.2.symm⟩))) | (go_at_call 43; exact Calls.quiet_of_same ((cB.out _).mono (fun _ _ h => ⟨h.1, h.2.symm⟩))))
              go_wp2_with fail
              go_ret2
              exact ⟨rawP_no, hO.out.drewN _⟩
            · have r1 : decide (A < 0) = false := by simpa using hA
              by_cases hB : B < 0
              · rw [if_pos (.inr hB)] at hF
                have r2 : decide (B < 0) = true := by simpa using hB
                have hF2 : (none : Option (List UInt8)) = r := hF
                subst hF2
                clear hS hF bA bB
                go_wp2_with fail
                go_quiet (first | (go_at_call 43; exact Calls.quiet_of_same ((cA.out _).mono (fun _ _ h => ⟨h.1, h.2.symm⟩))) | (go_at_call 43; exact Calls.quiet_of_same ((cB.out _).mono (fun _ _ h => ⟨h.1, h.2.symm⟩))))
                go_wp2_with fail
                go_ret2
                exact ⟨rawP_no, hO.out.drewN _⟩
              · rw [if_neg (by omega)] at hF
                have r2 : decide (B < 0) = false := by simpa using hB
                have x3 : bits BinOp.or IntKind.i64 (A * 16) B = 16 * A + B := or_half' A B (by omega) bA.2 (by omega) bB.2
                obtain ⟨x, hx⟩ : ∃ x : UInt8, UInt8.ofNat (16 * A + B).toNat = x := ⟨_, rfl⟩
                rw [hx] at hF
                have x0 : (16 * A + B).toNat < 256 := by omega
                have x1 : (x.toNat : Int) = 16 * A + B := by
                  rw [← hx, UInt8.toNat_ofNat_of_lt' x0]; omega
                have x2 : IntKind.u8.wrap (16 * A + B) = (x.toNat : Int) := by
                  have := x.toNat_lt
                  rw [← x1]; exact IntWalk.u8_in _ (by omega)
                have hF3 := Lib.hid (show (rawF s (n - (k + 1)) (i + 2)).map (fun l => (T ++ [x]) ++ l) = r by
                  rw [← hF, Option.map_map]
                  congr 1
                  funext l
                  simp)
                replace x1 := Lib.hid x1
                replace hS := Lib.hid hS
                clear hF hx x0
                go_wp2_with fail
                go_quiet (first | (go_at_call 43; exact Calls.quiet_of_same ((cA.out _).mono (fun _ _ h => ⟨h.1, h.2.symm⟩))) | (go_at_call 43; exact Calls.quiet_of_same ((cB.out _).mono (fun _ _ h => ⟨h.1, h.2.symm⟩))))
                have hOq := hO.out.drewN nq
                have hSq := hS.out.nil' ((Own.refl [] wr).drewN nq)
                generalize wr.drewN nq = wq at *
                have hOb : Own [] w (wq.alloc (.cells #[.int .u8 x.toNat] 5)) := hOq.alloc _
                have hSb : Sl 5 bEnc 1 w.heap.size (wq.alloc (.cells #[.int .u8 x.toNat] 5)) (.slice a1 T.length cc) T := hSq.nil' ((Own.refl [] wq).alloc _)
                have hRb := Reads.new (enc := bEnc) (T := 5) wq x 1
                replace hOb := Lib.hid hOb
                replace hSb := Lib.hid hSb
                replace hRb := Lib.hid hRb
                clear hOq hSq
                go_wp2_with (at_builtin; refine wpList_append_new rfl (.tmp 43) (.tmp 49) rfl bElem hOb.out rfl hSb.out rfl hRb.out hl1.out hl2.out ?_; intro va w5 hS5 hO5 _ _; replace hS5 := Lib.hid hS5; replace hO5 := Lib.hid hO5)
                go_roundg (n - (k + 1))
                case rel => exact ⟨k + 1, va, T ++ [x], rfl, by rw [show ((2 * (k + 1) : Nat) : Int) = (i : Int) + 2 by have := hi.out; omega], by omega, by have := hT.out; simp; omega, hS5.out, hO5.out, by have := hi.out; rw [show 2 * (k + 1) = i + 2 by omega]; exact hF3.out⟩
                case measure => have := hk.out; omega
          · have hkn : k = n := by omega
            have hF0 : rawF s (n - k) i = some [] := by rw [hkn, Nat.sub_self]; rfl
            rw [hF0] at hF
            have hF2 : some T = r := by rw [← hF]; simp
            subst hF2
            have z2 : ¬ (i : Int) < s.size := by omega
            have z3 : i ≤ 281474976702464 := by omega
            have hne : T ≠ [] := by rintro rfl; have : 0 = k := hT; omega
            have hc := conv_sl Tryd.underlying57 Tryd.underlying9 hS hne
            replace hO := Lib.hid hO
            replace hi := Lib.hid hi
            replace hk := Lib.hid hk
            replace hT := Lib.hid hT
            clear hS hF hF0 hne hkn hlt hn1
            go_wp2_with fail
            go_ret2
            exact ⟨rawP_yes T, hO.out⟩
      · have e1 : scRaw s = none := by unfold scRaw; rw [if_neg c1, if_pos (.inr c3)]
        rw [e1]
        have m1 : (s.size : Int).tmod 2 = 1 := by rw [Int.tmod_eq_emod_of_nonneg (by omega)]; omega
        have m2 : (s.size : Int) % 2 = 1 := by omega
        clear c1 e1 c2
        go_enter Tryd.func35, Tryd.ntmps35
        go_wp2_with fail
        go_ret2
        exact ⟨rawP_no, Own.refl _ _⟩
end Go.Proofs.YtnppgidbfmbdgaaDoor
