/- Scripts (chapter 40): events as a text: the program's. -/
import Derived.Test.YtnppgidbfmbdgaaDoorScriptEvs
import Derived.Deep.LoopGhost
set_option linter.unusedSimpArgs false
set_option linter.unusedVariables false
namespace Go.Proofs.YtnppgidbfmbdgaaDoor
open Go.RowKit

/-- The lines after i events. -/
def linesAt (L : List Ev) (i : Nat) : List ByteArray := (L.take i).map (fun e => (evPrint e).1) ++ List.replicate (L.length - i) ⟨#[]⟩
theorem linesAt_len (L : List Ev) (i : Nat) (h : i ≤ L.length) : (linesAt L i).length = L.length := by unfold linesAt; simp; omega
theorem linesAt_get {L : List Ev} {i : Nat} (h : i < L.length) : (linesAt L i)[i]? = some ⟨#[]⟩ := by
  unfold linesAt
  rw [List.getElem?_append_right (by simp; omega)]
  simp only [List.length_map, List.length_take]
  rw [List.getElem?_replicate, if_pos (by omega)]
theorem linesAt_set {L : List Ev} {i : Nat} {x : Ev} (hx : L[i]? = some x) : (linesAt L i).set i (evPrint x).1 = linesAt L (i + 1) := by
  obtain ⟨hi, rfl⟩ := List.getElem?_eq_some_iff.1 hx
  unfold linesAt
  rw [List.take_succ_eq_append_getElem hi, List.map_append, List.append_assoc]
  have e : L.length - i = (L.length - (i + 1)) + 1 := by omega
  rw [e, List.replicate_succ, List.set_append_right _ _ (by simp; omega)]
  simp only [List.length_map, List.length_take]
  rw [show i - min i L.length = 0 by omega]
  rfl
theorem linesAt_zero (L : List Ev) : linesAt L 0 = List.replicate L.length ⟨#[]⟩ := by unfold linesAt; simp
theorem linesAt_all {L : List Ev} {i : Nat} {x : Ev} (hx : L[i]? = some x) : (linesAt L L.length)[i]? = some (evPrint x).1 := by
  unfold linesAt
  obtain ⟨hi, rfl⟩ := List.getElem?_eq_some_iff.1 hx
  rw [List.getElem?_append_left (by simpa using hi)]
  simp [hi]
theorem made_rows (n : Nat) : (madeCells #[.string ⟨#[]⟩] (n * 1)).toList = rowOf wEnc (List.replicate n ⟨#[]⟩) := by
  rw [rowOf_w, Nat.mul_one]
  apply List.ext_getElem?
  intro i
  unfold madeCells
  by_cases h : i < n <;> simp [Nat.mod_one, h]
set_option maxRecDepth 100000 in
set_option maxHeartbeats 4000000 in
theorem printAll_any (a : Option Addr) (ca : Nat) (L : List Ev) (w : World) (hA : EvsAt w a L) (hT : Pow10 w) :
    Calls Tryd.prog 13 #[.slice a L.length ca] w fun e w' => PrintP (scPrintAll L) e ∧ Own [] w w' := by
  have hl := hA.1
  by_cases h5 : 512 < L.length
  · have e1 : scPrintAll L = (⟨#[]⟩, 6) := by unfold scPrintAll; rw [if_pos h5]
    rw [e1]
    have b1 : (512 : Int) < L.length := by omega
    clear hA
    go_enter Tryd.func13, Tryd.ntmps13
    go_wp2_with fail
    go_ret2
    exact ⟨printP_err 6, Own.refl _ _⟩
  · have b1 : ¬ (512 : Int) < L.length := by omega
    obtain ⟨fe, hfe⟩ : ∃ fe, firstErr L = fe := ⟨_, rfl⟩
    have eA : scPrintAll L = if fe ≠ 0 then (⟨#[]⟩, fe) else match joinP L ⟨#[]⟩ with | some s => (s, 0) | none => (⟨#[]⟩, 3) := by unfold scPrintAll; rw [if_neg h5, hfe]; rfl
    obtain ⟨R, hR⟩ : ∃ R, scPrintAll L = R := ⟨_, rfl⟩
    rw [hR] at eA ⊢
    replace eA := Lib.hid eA
    replace hA := Lib.hid hA
    have hst := Lib.hid (show firstErr (L.drop 0) = fe by rw [List.drop_zero]; exact hfe)
    obtain ⟨inf, z, i1, i2, i3, i4, i5⟩ := wElem.info
    have hn3 : L.length ≤ 512 := by omega
    have b2 := Lib.hid (show inf.bytes * L.length ≤ 281474976710656 by rw [i4]; omega)
    have b3 := Lib.hid (show L.length ≤ maxLen by unfold maxLen; omega)
    obtain ⟨j0, k1, k2, k3, k4⟩ := info_parts wInfo
    have hz : z = .string ⟨#[]⟩ := by
      rw [i1] at k1
      cases k1
      rw [i2] at k2
      exact Option.some.inj k2
    subst hz
    obtain ⟨w1, hmk, hw1, hg1⟩ := run_make_full (P := Tryd.prog) w w.heap.size 48 9 inf _ 1 Tryd.underlying48 i1 i2 i3 .i64 .i64 L.length b2.out b3.out (Nat.le_refl _)
    rw [show (Value.cells (Value.string ⟨#[]⟩)) = #[.string ⟨#[]⟩] from rfl, made_rows] at hw1
    have hR1 : Row 9 wEnc 1 w1 w.heap.size L.length (linesAt L 0) := by
      rw [linesAt_zero]
      exact Row.of_owns (enc := wEnc) (l := List.replicate L.length (⟨#[]⟩ : ByteArray)) (cap := L.length) (g := w.heap.size) hw1 (by simp)
    have hO1 : Own [] w w1 := ⟨hg1.os, hg1.tape, hg1.output, hg1.size, fun q hq hn => hg1.block q hq (by simp)⟩
    replace hR1 := Lib.hid hR1
    replace hO1 := Lib.hid hO1
    clear hR hfe i1 i2 i3 i4 i5 k1 k2 k3 k4 h5 hw1 hg1
    go_enter Tryd.func13, Tryd.ntmps13
    go_wp2_with fail
    go_loopg [5, 6, 7, 8, 20] L.length (fun g _ _ _ _ s20 wr => ∃ i : Nat, s20 = .int .i64 i ∧ i + g = L.length ∧ Aside (Own [] w wr ∧ Row 9 wEnc 1 wr w.heap.size L.length (linesAt L i) ∧ firstErr (L.drop i) = fe))
    case atStart => exact ⟨0, rfl, by simp, hO1.out, hR1.out, hst.out⟩
    case round =>
      obtain ⟨i, rfl, hg, hO, hRw, hF⟩ := hrel
      have hw1 : IntKind.i64.wrap ((i : Int) + 1) = ((i + 1 : Nat) : Int) := by rw [IntKind.wrap_i64]; omega
      clear b2 b3 hst hR1 hO1 hmk
      by_cases hlt : i < L.length
      · have h1 : (i : Int) < L.length := by omega
        have h0 : (0 : Int) ≤ i := by omega
        obtain ⟨x, hx⟩ : ∃ x, L[i]? = some x := ⟨_, List.getElem?_eq_getElem hlt⟩
        obtain ⟨b1, o1, rfl, p0, p1, p2, p3⟩ := (hA.out.own hO).get hx
        rw [firstErr_at hx] at hF
        have cP := Lib.hid (fun W h => print_any x.k x.c x.n x.d W h)
        obtain ⟨⟨s, f⟩, hs⟩ : ∃ r, evPrint x = r := ⟨_, rfl⟩
        rw [hs] at hF
        have hset := linesAt_set hx
        rw [hs] at hset
        have hgt := linesAt_get hlt
        obtain ⟨x1, x2, x3, x4⟩ := x
        unfold evPrint at hs
        replace hs := Lib.hid hs
        replace hx := Lib.hid hx
        replace hg := Lib.hid hg
        replace hRw := Lib.hid hRw
        replace hset := Lib.hid hset
        replace hgt := Lib.hid hgt
        have hO9 := Lib.hid (hO.alloc (.cells #[.int .i64 x1, .int .i64 x2, .int .i64 x3, .string x4] 23))
        replace hRw := Lib.hid (hRw.out.own ((Own.refl [] wr).alloc (.cells #[.int .i64 x1, .int .i64 x2, .int .i64 x3, .string x4] 23)) (by simp))
        replace hO := Lib.hid hO
        by_cases hf : f = 0
        · rw [if_neg (by simpa using hf)] at hF
          have q1 : (f != 0) = false := by simpa using hf
          replace hF := Lib.hid hF
          clear hf
          go_wp2_with fail
          with_reducible refine (cP.out _ (by exact pow10_own hT hO9.out)).mono ?_
          rintro e w2 ⟨hP, hO2⟩
          obtain rfl := printP_is hP hs.out
          clear hP
          have hR2 := hRw.out.own hO2 (by simp)
          have cc : w2.cell? ⟨w.heap.size, i, none⟩ = some (.string ⟨#[]⟩) := by simpa using hR2.cell wEnc_len hgt.out (show (wEnc ⟨#[]⟩)[0]? = some (.string ⟨#[]⟩) from rfl)
          have cf := hR2.frozen i
          have hR3 := row_upd hR2 wEnc_len (x := s) 0 (.string s) hgt.out (fun j hj => by have h0 : j = 0 := (by omega); subst h0; rfl)
          rw [hset.out, Nat.mul_one, Nat.add_zero] at hR3
          replace hR3 := Lib.hid hR3
          replace hO2 := Lib.hid ((hO9.out.trans hO2).setCell (p := ⟨w.heap.size, i, none⟩) (.inr (Nat.le_refl _)) (.string s))
          clear hR2
          go_wp2_with fail
          go_roundg (L.length - (i + 1))
          case rel => exact ⟨i + 1, by go_num, by omega, hO2.out, hR3.out, hF.out⟩
          case measure => have := hg.out; omega
        · rw [if_pos hf] at hF
          have q1 : (f != 0) = true := by simpa using hf
          have e1 : R = (⟨#[]⟩, f) := by rw [eA.out, ← hF]; exact if_pos hf
          replace e1 := Lib.hid e1
          clear hf hF
          go_wp2_with fail
          with_reducible refine (cP.out _ (by exact pow10_own hT hO9.out)).mono ?_
          rintro e w2 ⟨hP, hO2⟩
          obtain rfl := printP_is hP hs.out
          clear hP
          replace hO2 := Lib.hid (hO9.out.trans hO2)
          go_wp2_with fail
          go_ret2
          exact ⟨by rw [e1.out]; exact printP_err f, hO2.out⟩
      · have h1 : ¬ (i : Int) < L.length := by omega
        obtain rfl : i = L.length := by omega
        rw [List.drop_of_length_le (by omega)] at hF
        have hF0 : (0 : Int) = fe := hF
        subst hF0
        have eB : R = match joinP L ⟨#[]⟩ with | some s => (s, 0) | none => (⟨#[]⟩, 3) := by rw [eA.out]; exact if_neg (by simp)
        obtain ⟨o, ho⟩ : ∃ o, joinP L ⟨#[]⟩ = o := ⟨_, rfl⟩
        rw [ho] at eB
        have hJ0 := Lib.hid (show joinP (L.drop 0) ⟨#[]⟩ = o by rw [List.drop_zero]; exact ho)
        replace eB := Lib.hid eB
        obtain ⟨wo, hwo⟩ : ∃ wo : World, wo = wr := ⟨_, rfl⟩
        rw [← hwo]
        rw [← hwo] at hO hRw
        have hB0 := Lib.hid (sb_new (w := wo))
        have hb0 := Lib.hid ((Below.refl wo.heap.size wo).alloc (Nat.le_refl _) (.cells #[.pointer none, .slice none 0 0] 59))
        have hn0 := Lib.hid (heap_alloc_new wo (.cells #[.pointer none, .slice none 0 0] 59))
        replace hO := Lib.hid hO
        replace hRw := Lib.hid hRw
        clear hF ho hg eA hwo hlt
        go_wp2_with fail
        generalize hB : wo.heap.size = B at *
        have hBw := lt_of_heap hRw.out.choose_spec.1
        rw [hB] at hBw
        replace hB := Lib.hid hB
        go_loopg [11, 40] L.length (fun g _ s40 wr => ∃ (i : Nat) (acc : ByteArray), s40 = .int .i64 i ∧ i + g = L.length ∧ acc.size ≤ 32768 ∧ Aside (Lib.IsBuilder 59 5 B B (Lib.byteCells acc.data.toList) wr ∧ Below B wo wr ∧ joinP (L.drop i) acc = o ∧ (acc.data.toList = [] → wr.heap[B]? = some (.cells #[.pointer none, .slice none 0 0] 59 (0, 0)))))
        case atStart => exact ⟨0, ⟨#[]⟩, rfl, by simp, by decide, hB0.out, hb0.out, hJ0.out, fun _ => hn0.out⟩
        case round =>
          obtain ⟨j, acc, rfl, hg, hac, hIB, hb, hJ, hfr⟩ := hrel
          have hw2 : IntKind.i64.wrap ((j : Int) + 1) = ((j + 1 : Nat) : Int) := by rw [IntKind.wrap_i64]; omega
          clear hJ0 hB0 hb0 hn0 hw1
          have hOo : Own [] wo wr := Own.of_below hb (by rw [hB.out]; exact Nat.le_refl _)
          have hRr := hRw.out.own hOo (by simp)
          have hBr : B ≤ wr.heap.size := by have := hb.size; rw [hB.out] at this; exact this
          have hacl : (Lib.byteCells acc.data.toList).length = acc.size := by rw [Lib.byteCells_length, Lib.size_eq]
          by_cases hlt : j < L.length
          · have h1 : (j : Int) < L.length := by omega
            have h0 : (0 : Int) ≤ j := by omega
            obtain ⟨x, hx⟩ : ∃ x, L[j]? = some x := ⟨_, List.getElem?_eq_getElem hlt⟩
            have hgl := linesAt_all hx
            rw [joinP_at hx] at hJ
            have hsz := evPrint_size x
            obtain ⟨s, hs⟩ : ∃ s, (evPrint x).1 = s := ⟨_, rfl⟩
            rw [hs] at hgl hJ hsz
            have cc : wr.cell? ⟨w.heap.size, j, none⟩ = some (.string s) := by simpa using hRr.cell wEnc_len hgl (show (wEnc s)[0]? = some (.string s) from rfl)
            have cL := Lib.hid (sbLen_any B B _ wr hIB)
            rw [hacl] at cL
            have hcat : Lib.byteCells (acc ++ s ++ ⟨#[10]⟩).data.toList = Lib.byteCells acc.data.toList ++ Lib.strCells s ++ Lib.strCells ⟨#[10]⟩ := by
              rw [ByteArray.data_append, ByteArray.data_append]
              simp [Lib.byteCells, Lib.strCells_eq]
            have hcne : (acc ++ s ++ ⟨#[10]⟩).data.toList ≠ [] := by
              rw [ByteArray.data_append, ByteArray.data_append]; simp
            have hsz2 : (acc ++ s ++ ⟨#[10]⟩).size = acc.size + s.size + 1 := by rw [ByteArray.size_append, ByteArray.size_append]; rfl
            replace hg := Lib.hid hg
            replace hb := Lib.hid hb
            by_cases hbig : 32768 < acc.size + s.size + 1
            · rw [if_pos hbig] at hJ
              subst hJ
              have q1 : (32768 : Int) - acc.size < (s.size : Int) + 1 := by omega
              have hOw := Lib.hid (hO.out.trans hOo)
              clear hbig hsz2 hcat hcne hIB hfr hRr hOo hgl hx hs hacl
              go_wp2_with (go_at_call 29; ((with_reducible refine cL.out.mono ?_); rintro e w2 ⟨rfl, rfl⟩))
              go_ret2
              exact ⟨by rw [eB.out]; exact printP_err 3, hOw.out⟩
            · rw [if_neg hbig] at hJ
              have q1 : decide ((32768 : Int) - acc.size < (s.size : Int) + 1) = false := by simp; omega
              have hac2 := Lib.hid (show (acc ++ s ++ ⟨#[10]⟩).size ≤ 32768 by omega)
              have cW := Lib.hid (wstr_any B B _ s wr hIB (by rw [hacl]; omega) hBr)
              have cV := Lib.hid (fun W (h : Lib.BuilderAt 59 5 B B (.pointer (some ⟨B, 0, none⟩)) (Lib.byteCells acc.data.toList ++ Lib.strCells s) W) (hz : B ≤ W.heap.size) =>
                wstr_any B B _ ⟨#[10]⟩ W (.inr h) (by rw [List.length_append, hacl, Lib.strCells_length]; show acc.size + s.size + 1 ≤ _; omega) hz)
              replace hcat := Lib.hid hcat
              replace hcne := Lib.hid hcne
              replace hJ := Lib.hid hJ
              clear hbig hsz2 hIB hfr hRr hOo hgl hx hs hacl
              go_wp2_with (first
                | (go_at_call 29; ((with_reducible refine cL.out.mono ?_); rintro e w2 ⟨rfl, rfl⟩))
                | (go_at_call 30; ((with_reducible refine cW.out.mono ?_); rintro e w3 ⟨rfl, hB3, hb3⟩; have cX := Lib.hid (cV.out w3 hB3 (Nat.le_trans hBr hb3.size)); replace hb3 := Lib.hid (hb.out.trans hb3); clear cW cV hB3))
                | (go_at_call 30; ((with_reducible refine cX.out.mono ?_); rintro e w4 ⟨rfl, hB4, hb4⟩; replace hB4 := Lib.hid hB4; replace hb4 := Lib.hid (hb3.out.trans hb4); clear cX)))
              go_roundg (L.length - (j + 1))
              case rel => exact ⟨j + 1, acc ++ s ++ ⟨#[10]⟩, by go_num, by omega, hac2.out, .inr (by rw [hcat.out]; exact hB4.out), hb4.out, hJ.out, fun h => absurd h hcne.out⟩
              case measure => have := hg.out; omega
          · have h1 : ¬ (j : Int) < L.length := by omega
            rw [List.drop_of_length_le (by omega)] at hJ
            have hJ0 : some acc = o := hJ
            subst hJ0
            have hOw := Lib.hid (hO.out.trans hOo)
            by_cases hz : acc.data.toList = []
            · have cS := Lib.hid (sbString_nil B B _ wr (hfr hz))
              have ha0 : acc = ⟨#[]⟩ := ByteArray.ext (Array.ext' hz)
              subst ha0
              clear hJ hg hIB hfr hRr hOo hz hac hacl
              go_wp2_with (go_at_call 28; ((with_reducible refine cS.out.mono ?_); rintro e w2 ⟨rfl, hb2⟩))
              go_ret2
              exact ⟨by rw [eB.out]; exact printP_ok _, hO.out.trans (Own.of_below (hb.trans hb2) (by rw [hB.out]; exact Nat.le_refl _))⟩
            · have cS := Lib.hid (sbString_any B B acc.data.toList wr hIB hz)
              clear hJ hg hIB hfr hRr hOo hz hac hacl
              go_wp2_with (go_at_call 28; ((with_reducible refine cS.out.mono ?_); rintro e w2 ⟨rfl, hb2⟩))
              go_ret2
              exact ⟨by rw [eB.out]; exact printP_ok _, hO.out.trans (Own.of_below (hb.trans hb2) (by rw [hB.out]; exact Nat.le_refl _))⟩
end Go.Proofs.YtnppgidbfmbdgaaDoor
