/- Scripts (chapter 40): events as a text: the document's. -/
import Derived.Test.YtnppgidbfmbdgaaDoorScriptEvs
import Derived.Test.YtnppgidbfmbdgaaDoorScriptRPrint
import Derived.Deep.LoopGhost
set_option linter.unusedSimpArgs false
set_option linter.unusedVariables false
namespace Go.Proofs.YtnppgidbfmbdgaaDoor
open Go.RowKit

set_option maxRecDepth 100000 in
set_option maxHeartbeats 4000000 in
theorem rprintAll_any (a : Option Addr) (ca : Nat) (L : List Ev) (w : World) (hA : EvsAt w a L) :
    Calls Tryd.prog 14 #[.slice a L.length ca] w fun e w' => PrintP (scPrintAll L) e ∧ Own [] w w' := by
  have hl := hA.1
  by_cases h5 : 512 < L.length
  · have e1 : scPrintAll L = (⟨#[]⟩, 6) := by unfold scPrintAll; rw [if_pos h5]
    rw [e1]
    have b1 : (512 : Int) < L.length := by omega
    clear hA
    go_enter Tryd.func14, Tryd.ntmps14
    go_wp2_with fail
    go_ret2
    exact ⟨printP_err 6, Own.refl _ _⟩
  · have b1 : ¬ (512 : Int) < L.length := by omega
    obtain ⟨fe, hfe⟩ : ∃ fe, firstErr L = fe := ⟨_, rfl⟩
    have eA : scPrintAll L = if fe ≠ 0 then (⟨#[]⟩, fe) else match joinP L ⟨#[]⟩ with | some s => (s, 0) | none => (⟨#[]⟩, 3) := by unfold scPrintAll; rw [if_neg h5, hfe]; rfl
    obtain ⟨R, hR⟩ : ∃ R, scPrintAll L = R := ⟨_, rfl⟩
    rw [hR] at eA ⊢
    replace eA := Lib.hid eA
    replace hA := Lib.hid hA
    have hst := Lib.hid (show firstErr (L.drop 0) = fe by rw [List.drop_zero]; exact hfe)
    clear hR hfe
    go_enter Tryd.func14, Tryd.ntmps14
    go_wp2_with fail
    go_loopg [4, 5, 6] L.length (fun g s4 _ _ wr => ∃ i : Nat, s4 = .int .i64 i ∧ i + g = L.length ∧ Aside (Own [] w wr ∧ firstErr (L.drop i) = fe))
    case atStart => exact ⟨0, rfl, by simp, Own.refl _ _, hst.out⟩
    case round =>
      obtain ⟨i, rfl, hg, hO, hF⟩ := hrel
      have hw1 : IntKind.i64.wrap ((i : Int) + 1) = ((i + 1 : Nat) : Int) := by rw [IntKind.wrap_i64]; omega
      by_cases hlt : i < L.length
      · have h1 : (i : Int) < L.length := by omega
        have h0 : (0 : Int) ≤ i := by omega
        obtain ⟨x, hx⟩ : ∃ x, L[i]? = some x := ⟨_, List.getElem?_eq_getElem hlt⟩
        obtain ⟨b1, o1, rfl, p0, p1, p2, p3⟩ := (hA.out.own hO).get hx
        rw [firstErr_at hx] at hF
        have cP := Lib.hid (fun W => rprint_any x.k x.c x.n x.d W)
        obtain ⟨⟨s, f⟩, hs⟩ : ∃ r, evPrint x = r := ⟨_, rfl⟩
        rw [hs] at hF
        obtain ⟨x1, x2, x3, x4⟩ := x
        unfold evPrint at hs
        replace hs := Lib.hid hs
        replace hx := Lib.hid hx
        replace hg := Lib.hid hg
        replace hO := Lib.hid hO
        by_cases hf : f = 0
        · rw [if_neg (by simpa using hf)] at hF
          have q1 : (f != 0) = false := by simpa using hf
          replace hF := Lib.hid hF
          clear hf hst
          go_wp2_with fail
          with_reducible refine (cP.out _).mono ?_
          rintro e w2 ⟨hP, hO2⟩
          obtain rfl := printP_is hP hs.out
          clear hP
          replace hO2 := Lib.hid (hO.out.trans hO2)
          go_wp2_with fail
          go_roundg (L.length - (i + 1))
          case rel => exact ⟨i + 1, by go_num, by omega, hO2.out, hF.out⟩
          case measure => have := hg.out; omega
        · rw [if_pos hf] at hF
          have q1 : (f != 0) = true := by simpa using hf
          have e1 : R = (⟨#[]⟩, f) := by rw [eA.out, ← hF]; exact if_pos hf
          replace e1 := Lib.hid e1
          clear hf hst hF
          go_wp2_with fail
          with_reducible refine (cP.out _).mono ?_
          rintro e w2 ⟨hP, hO2⟩
          obtain rfl := printP_is hP hs.out
          clear hP
          replace hO2 := Lib.hid (hO.out.trans hO2)
          go_wp2_with fail
          go_ret2
          exact ⟨by rw [e1.out]; exact printP_err f, hO2.out⟩
      · have h1 : ¬ (i : Int) < L.length := by omega
        rw [List.drop_of_length_le (by omega)] at hF
        have hF0 : (0 : Int) = fe := hF
        subst hF0
        have eB : R = match joinP L ⟨#[]⟩ with | some s => (s, 0) | none => (⟨#[]⟩, 3) := by rw [eA.out]; exact if_neg (by simp)
        obtain ⟨o, ho⟩ : ∃ o, joinP L ⟨#[]⟩ = o := ⟨_, rfl⟩
        rw [ho] at eB
        have hJ0 := Lib.hid (show joinP (L.drop 0) ⟨#[]⟩ = o by rw [List.drop_zero]; exact ho)
        replace eB := Lib.hid eB
        replace hO := Lib.hid hO
        clear hF ho hg eA hst
        go_wp2_with fail
        obtain ⟨wo, hwo⟩ : ∃ wo : World, wo = wr := ⟨_, rfl⟩
        rw [← hwo]
        rw [← hwo] at hO
        clear hwo
        go_loopg [7, 8, 9, 10] L.length (fun g s7 s8 _ _ wr => ∃ (i : Nat) (acc : ByteArray), s7 = .string acc ∧ s8 = .int .i64 i ∧ i + g = L.length ∧ acc.size ≤ 32768 ∧ Aside (Own [] w wr ∧ joinP (L.drop i) acc = o))
        case atStart => exact ⟨0, ⟨#[]⟩, rfl, rfl, by simp, by decide, hO.out, hJ0.out⟩
        case round =>
          obtain ⟨j, acc, rfl, rfl, hg, hac, hO, hJ⟩ := hrel
          have hw2 : IntKind.i64.wrap ((j : Int) + 1) = ((j + 1 : Nat) : Int) := by rw [IntKind.wrap_i64]; omega
          clear hJ0
          by_cases hlt : j < L.length
          · have h1 : (j : Int) < L.length := by omega
            have h0 : (0 : Int) ≤ j := by omega
            obtain ⟨x, hx⟩ : ∃ x, L[j]? = some x := ⟨_, List.getElem?_eq_getElem hlt⟩
            obtain ⟨b1, o1, rfl, p0, p1, p2, p3⟩ := (hA.out.own hO).get hx
            rw [joinP_at hx] at hJ
            have hsz := evPrint_size x
            have cP := Lib.hid (fun W => rprint_any x.k x.c x.n x.d W)
            obtain ⟨⟨s, f⟩, hs⟩ : ∃ r, evPrint x = r := ⟨_, rfl⟩
            rw [hs] at hJ hsz
            obtain ⟨x1, x2, x3, x4⟩ := x
            unfold evPrint at hs
            replace hs := Lib.hid hs
            replace hx := Lib.hid hx
            replace hg := Lib.hid hg
            replace hO := Lib.hid hO
            have a1 : ¬ 9223372036854775807 < acc.size + s.size := by simp only at hsz; omega
            have a2 : ¬ 9223372036854775807 < acc.size + s.size + 1 := by simp only at hsz; omega
            have hsz2 : (acc ++ s ++ ⟨#[10]⟩).size = acc.size + s.size + 1 := by rw [ByteArray.size_append, ByteArray.size_append]; rfl
            by_cases hbig : 32768 < acc.size + s.size + 1
            · rw [if_pos hbig] at hJ
              subst hJ
              have q1 : (32768 : Int) < (acc.size : Int) + s.size + 1 := by omega
              clear hbig hsz2 hsz hac
              go_wp2_with fail
              with_reducible refine (cP.out _).mono ?_
              rintro e w2 ⟨hP, hO2⟩
              obtain rfl := printP_is hP hs.out
              clear hP
              replace hO2 := Lib.hid (hO.out.trans hO2)
              go_wp2_with fail
              go_ret2
              exact ⟨by rw [eB.out]; exact printP_err 3, hO2.out⟩
            · rw [if_neg hbig] at hJ
              have q1 : decide ((32768 : Int) < (acc.size : Int) + s.size + 1) = false := by simp; omega
              have hac2 := Lib.hid (show (acc ++ s ++ ⟨#[10]⟩).size ≤ 32768 by omega)
              replace hJ := Lib.hid hJ
              clear hbig hsz2 hsz hac
              go_wp2_with fail
              with_reducible refine (cP.out _).mono ?_
              rintro e w2 ⟨hP, hO2⟩
              obtain rfl := printP_is hP hs.out
              clear hP
              replace hO2 := Lib.hid (hO.out.trans hO2)
              go_wp2_with fail
              go_roundg (L.length - (j + 1))
              case rel => exact ⟨j + 1, acc ++ s ++ ⟨#[10]⟩, rfl, by go_num, by omega, hac2.out, hO2.out, hJ.out⟩
              case measure => have := hg.out; omega
          · have h1 : ¬ (j : Int) < L.length := by omega
            rw [List.drop_of_length_le (by omega)] at hJ
            have hJ0 : some acc = o := hJ
            subst hJ0
            replace hO := Lib.hid hO
            clear hJ hg
            go_wp2_with fail
            go_ret2
            exact ⟨by rw [eB.out]; exact printP_ok acc, hO.out⟩
end Go.Proofs.YtnppgidbfmbdgaaDoor
