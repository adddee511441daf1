/- Scripts (chapter 40): a text's events: the document's. -/
import Derived.Test.YtnppgidbfmbdgaaDoorScriptPaAll
import Derived.Test.YtnppgidbfmbdgaaDoorScriptRParse
import Derived.Deep.LoopGhost
set_option linter.unusedSimpArgs false
set_option linter.unusedVariables false
namespace Go.Proofs.YtnppgidbfmbdgaaDoor
open Go.RowKit

theorem splB_last_part (s : ByteArray) : ∃ D x, splB 10 s = D ++ [x] := by
  have h : splB 10 s ≠ [] := by unfold splB; intro h; exact spl_ne 10 _ (List.map_eq_nil_iff.1 h)
  rcases List.eq_nil_or_concat (splB 10 s) with e | ⟨D, x, e⟩
  · exact absurd e h
  · exact ⟨D, x, by simpa using e⟩
set_option maxRecDepth 100000 in
set_option maxHeartbeats 8000000 in
theorem rparseAll_any (s : ByteArray) (w : World) :
    Calls Tryd.prog 16 #[.string s] w fun e w' => PAllP w.heap.size (scParseAll s) e w' ∧ Own [] w w' := by
  by_cases hs : 32768 < s.size
  · have e1 : scParseAll s = ([], 0, 3) := by unfold scParseAll; rw [if_pos hs]
    rw [e1]
    have b1 : (32768 : Int) < s.size := by omega
    clear hs e1
    go_enter Tryd.func16, Tryd.ntmps16
    go_wp2_with fail
    go_ret3
    exact ⟨pallP_none 0 3, Own.refl _ _⟩
  · have b1 : ¬ (32768 : Int) < s.size := by omega
    have cR : Calls Tryd.prog 24 #[.string s, .int .u8 10] w (SplP w (splB 10 s)) := rsplit_any s 10 w (by omega)
    have eA : scParseAll s = if 512 < (rowsOf s).length then ([], 0, 6) else scScan (rowsOf s) 0 [] := by unfold scParseAll; rw [if_neg hs]
    have hrw := rows_eq s
    have hll := splB_len 10 s
    obtain ⟨D, x, hD⟩ := splB_last_part s
    rw [hD] at cR hrw hll
    have hla : lastEmpty (D ++ [x]) = (x.size == 0) := by unfold lastEmpty; simp
    rw [hla, List.dropLast_concat] at hrw
    have hDl : D.length ≤ 32768 := by simp at hll; omega
    obtain ⟨L, hL⟩ : ∃ L, rowsOf s = L := ⟨_, rfl⟩
    rw [hL] at eA hrw
    obtain ⟨R, hR⟩ : ∃ R, scParseAll s = R := ⟨_, rfl⟩
    rw [hR] at eA ⊢
    replace cR := Lib.hid cR
    have hn : (D ++ [x]).length = D.length + 1 := by simp
    have hxx : (x.toList.isEmpty = true ∧ L = D) ∨ (x.toList.isEmpty = false ∧ L = D ++ [x]) := by
      by_cases hz : x.size = 0
      · refine .inl ⟨?_, ?_⟩
        · rw [List.eq_nil_of_length_eq_zero (show x.toList.length = 0 by rw [size_toList]; exact hz)]; rfl
        · rw [hrw, if_pos (by simpa using hz)]
      · refine .inr ⟨?_, ?_⟩
        · rw [List.isEmpty_eq_false_iff]; intro h; apply hz; rw [← size_toList, h]; rfl
        · rw [hrw, if_neg (by simpa using hz)]
    have hw0 : IntKind.i64.wrap ((D.length : Int) + 1 - 1) = (D.length : Int) := by rw [IntKind.wrap_i64]; omega
    have hd0 : (0 : Int) ≤ D.length := by omega
    clear hL hs hll hD hla hrw hR
    replace hn := Lib.hid hn
    replace eA := Lib.hid eA
    by_cases h5 : 512 < L.length
    · have e1 : R = ([], 0, 6) := by rw [eA.out, if_pos h5]
      replace e1 := Lib.hid e1
      have b2 : (512 : Int) < L.length := by omega
      clear eA
      rcases hxx with ⟨q0, rfl⟩ | ⟨q0, hLe⟩
      · have q1 : x.toList = [] := by simpa using q0
        go_enter Tryd.func16, Tryd.ntmps16
        go_wp2_with fail
        with_reducible refine cR.out.mono ?_
        rintro e w2 ⟨v, rfl, hS, hO2⟩
        obtain ⟨v1, hsl, hR1, _⟩ := hS.take wElem (i := L.length) (by rw [hn.out]; omega)
        rw [List.take_left] at hR1
        obtain ⟨a1, c1, rfl⟩ := hR1.form
        obtain ⟨av, cv, rfl⟩ := hS.sl
        obtain ⟨b0, o0, ha1, hC⟩ := (hS.reads wEnc_len).at_ wEnc_len (by rw [hn.out]; omega)
        subst ha1
        have c0 : w2.cell? ⟨b0, o0 + L.length, none⟩ = some (.string x) := by simpa using hC L.length x 0 (.string x) (by simp) rfl
        rw [hn.out] at hsl ⊢
        replace hR := Lib.hid hR1
        replace hO2 := Lib.hid hO2
        clear hS hC hR1 cR
        go_wp2_with fail
        go_ret3
        exact ⟨by rw [e1.out]; exact pallP_none 0 6, hO2.out⟩
      · go_enter Tryd.func16, Tryd.ntmps16
        go_wp2_with fail
        with_reducible refine cR.out.mono ?_
        rintro e w2 ⟨v, rfl, hS, hO2⟩
        obtain ⟨a1, c1, rfl⟩ := hS.sl
        have hR1 := hS.reads wEnc_len
        obtain ⟨b0, o0, ha1, hC⟩ := hR1.at_ wEnc_len (by rw [hn.out]; omega)
        subst ha1
        have c0 : w2.cell? ⟨b0, o0 + D.length, none⟩ = some (.string x) := by simpa using hC D.length x 0 (.string x) (by simp) rfl
        rw [← hLe] at hR1
        have hLn : L.length = D.length + 1 := by rw [hLe]; exact hn.out
        have hw2 : IntKind.i64.wrap ((L.length : Int) - 1) = (D.length : Int) := by rw [IntKind.wrap_i64]; omega
        have hw3 : (0 : Int) ≤ (L.length : Int) - 1 := by omega
        have hw4 : ((L.length : Int) - 1).toNat = D.length := by omega
        have hw5 : (L.length : Int) - 1 = (D.length : Int) := by omega
        rw [hn.out, ← hLn]
        replace hLn := Lib.hid hLn
        clear hw2 hw4
        replace hR := Lib.hid hR1
        replace hO2 := Lib.hid hO2
        clear hS hC hR1 cR hLe hw0
        go_wp2_with fail
        go_ret3
        exact ⟨by rw [e1.out]; exact pallP_none 0 6, hO2.out⟩
    · have e1 : scScan L 0 [] = R := by rw [eA.out, if_neg h5]
      have hst := Lib.hid (show scScan (L.drop 0) 0 [] = R by rw [List.drop_zero]; exact e1)
      have b2 : ¬ (512 : Int) < L.length := by omega
      have hL5 : L.length ≤ 512 := by omega
      clear eA e1 h5
      rcases hxx with ⟨q0, rfl⟩ | ⟨q0, hLe⟩
      · have q1 : x.toList = [] := by simpa using q0
        go_enter Tryd.func16, Tryd.ntmps16
        go_wp2_with fail
        with_reducible refine cR.out.mono ?_
        rintro e w2 ⟨v, rfl, hS, hO2⟩
        obtain ⟨v1, hsl, hR1, _⟩ := hS.take wElem (i := L.length) (by rw [hn.out]; omega)
        rw [List.take_left] at hR1
        obtain ⟨a1, c1, rfl⟩ := hR1.form
        obtain ⟨av, cv, rfl⟩ := hS.sl
        obtain ⟨b0, o0, ha1, hC⟩ := (hS.reads wEnc_len).at_ wEnc_len (by rw [hn.out]; omega)
        subst ha1
        have c0 : w2.cell? ⟨b0, o0 + L.length, none⟩ = some (.string x) := by simpa using hC L.length x 0 (.string x) (by simp) rfl
        rw [hn.out] at hsl ⊢
        replace hR := Lib.hid hR1
        replace hO2 := Lib.hid hO2
        clear hS hC hR1 cR
        go_wp2_with fail
        go_loopg [6, 7, 8, 9] L.length (fun g s6 s7 _ _ wr => ∃ (i : Nat) (v : Value) (T : List Ev), s6 = v ∧ s7 = .int .i64 i ∧ i + g = L.length ∧ T.length ≤ i ∧ Aside (Sl 23 Ev.cells 4 w2.heap.size wr v T ∧ Own [] w2 wr ∧ scScan (L.drop i) i T = R))
        case atStart => exact ⟨0, _, [], rfl, rfl, by simp, Nat.le_refl _, Sl.nil _ _ _, Own.refl _ _, hst.out⟩
        case round =>
          obtain ⟨i, v, T, rfl, rfl, hg, hTl, hS, hOr, hF⟩ := hrel
          have hO := hO2.out.trans hOr
          obtain ⟨av, cv, rfl⟩ := hS.sl
          have hw1 : IntKind.i64.wrap ((i : Int) + 1) = ((i + 1 : Nat) : Int) := by rw [IntKind.wrap_i64]; omega
          clear hst
          by_cases hlt : i < L.length
          · have h1 : (i : Int) < L.length := by omega
            have h0 : (0 : Int) ≤ i := by omega
            obtain ⟨x, hx⟩ : ∃ x, L[i]? = some x := ⟨_, List.getElem?_eq_getElem hlt⟩
            obtain ⟨b0, o0, ha1, hC⟩ := (hR.out.own hOr (by simp)).at_ wEnc_len (by omega)
            first | subst ha1 | cases ha1
            have c0 : wr.cell? ⟨b0, o0 + i, none⟩ = some (.string x) := by simpa using hC i x 0 (.string x) hx rfl
            rw [scScan_at hx] at hF
            obtain ⟨⟨⟨x1, x2, x3, x4⟩, z⟩, hs⟩ : ∃ r, scParse x = r := ⟨_, rfl⟩
            rw [hs] at hF
            have cP := Lib.hid (rparse_any x wr)
            replace hs := Lib.hid hs
            replace hx := Lib.hid hx
            replace hg := Lib.hid hg
            replace hO := Lib.hid hO
            replace hOr := Lib.hid hOr
            replace hS := Lib.hid hS
            clear hC
            by_cases hz : z = 0
            · rw [if_neg (by simpa using hz)] at hF
              have q1 : (z != 0) = false := by simpa using hz
              replace hF := Lib.hid hF
              clear hz
              go_wp2_with fail
              with_reducible refine cP.out.mono ?_
              rintro e w3 ⟨hP, hO3⟩
              obtain rfl := parseP_is hP hs.out
              clear hP cP
              have hb3 := heap_alloc_new w3 (.cells #[.int .i64 x1, .int .i64 x2, .int .i64 x3, .string x4] 23)
              have hA3 := (Own.refl [] w3).alloc (.cells #[.int .i64 x1, .int .i64 x2, .int .i64 x3, .string x4] 23)
              have hOc := Lib.hid (((hOr.out.trans hO3).trans hA3).alloc (.cells #[.int .i64 x1, .int .i64 x2, .int .i64 x3, .string x4] 23))
              have hSb := Lib.hid (((hS.out.nil' hO3).nil' hA3).nil' ((Own.refl [] _).alloc (.cells #[.int .i64 x1, .int .i64 x2, .int .i64 x3, .string x4] 23)))
              have hRb := Lib.hid (Reads.new (enc := Ev.cells) (T := 23) (w3.alloc (.cells #[.int .i64 x1, .int .i64 x2, .int .i64 x3, .string x4] 23)) ⟨x1, x2, x3, x4⟩ 1)
              have hlc : (w3.alloc (.cells #[.int .i64 x1, .int .i64 x2, .int .i64 x3, .string x4] 23)).heap.size = w3.heap.size + 1 := by simp
              rw [hlc] at hRb
              have hl1 := Lib.hid (show (T.length + 1) * 40 ≤ 140737488355328 by omega)
              have hl2 := Lib.hid (show T.length + 1 ≤ maxLen by unfold maxLen; omega)
              clear hb3 hA3 hlc hO3
              go_wp2_with (at_builtin; refine wpList_append_new rfl (.tmp 48) (.tmp 50) rfl evElem hOc.out rfl hSb.out rfl hRb.out hl1.out hl2.out ?_; intro va w5 hS5 hO5 _ _; replace hS5 := Lib.hid hS5; replace hO5 := Lib.hid hO5)
              go_roundg (L.length - (i + 1))
              case rel => exact ⟨i + 1, va, T ++ [⟨x1, x2, x3, x4⟩], rfl, by go_num, by omega, by simp; omega, hS5.out, hO5.out, hF.out⟩
              case measure => have := hg.out; omega
            · rw [if_pos hz] at hF
              have q1 : (z != 0) = true := by simpa using hz
              replace hF := Lib.hid hF
              clear hz
              go_wp2_with fail
              with_reducible refine cP.out.mono ?_
              rintro e w3 ⟨hP, hO3⟩
              obtain rfl := parseP_is hP hs.out
              clear hP cP
              replace hO3 := Lib.hid ((hO.out.trans hO3).alloc (.cells #[.int .i64 x1, .int .i64 x2, .int .i64 x3, .string x4] 23))
              go_wp2_with fail
              go_ret3
              exact ⟨by rw [← hF.out]; exact pallP_none i z, hO3.out⟩
          · have h1 : ¬ (i : Int) < L.length := by omega
            rw [List.drop_of_length_le (by omega)] at hF
            have hF0 : ((T, 0, 0) : List Ev × Int × Int) = R := hF
            subst hF0
            replace hS := Lib.hid hS
            replace hO := Lib.hid hO
            replace hOr := Lib.hid hOr
            clear hF hg
            go_wp2_with fail
            go_ret3
            exact ⟨⟨_, rfl, hS.out.mono hO2.out.size⟩, hO.out⟩
      · go_enter Tryd.func16, Tryd.ntmps16
        go_wp2_with fail
        with_reducible refine cR.out.mono ?_
        rintro e w2 ⟨v, rfl, hS, hO2⟩
        obtain ⟨a1, c1, rfl⟩ := hS.sl
        have hR1 := hS.reads wEnc_len
        obtain ⟨b0, o0, ha1, hC⟩ := hR1.at_ wEnc_len (by rw [hn.out]; omega)
        subst ha1
        have c0 : w2.cell? ⟨b0, o0 + D.length, none⟩ = some (.string x) := by simpa using hC D.length x 0 (.string x) (by simp) rfl
        rw [← hLe] at hR1
        have hLn : L.length = D.length + 1 := by rw [hLe]; exact hn.out
        have hw2 : IntKind.i64.wrap ((L.length : Int) - 1) = (D.length : Int) := by rw [IntKind.wrap_i64]; omega
        have hw3 : (0 : Int) ≤ (L.length : Int) - 1 := by omega
        have hw4 : ((L.length : Int) - 1).toNat = D.length := by omega
        have hw5 : (L.length : Int) - 1 = (D.length : Int) := by omega
        rw [hn.out, ← hLn]
        replace hLn := Lib.hid hLn
        clear hw2 hw4
        replace hR := Lib.hid hR1
        replace hO2 := Lib.hid hO2
        clear hS hC hR1 cR hLe hw0
        go_wp2_with fail
        go_loopg [6, 7, 8, 9] L.length (fun g s6 s7 _ _ wr => ∃ (i : Nat) (v : Value) (T : List Ev), s6 = v ∧ s7 = .int .i64 i ∧ i + g = L.length ∧ T.length ≤ i ∧ Aside (Sl 23 Ev.cells 4 w2.heap.size wr v T ∧ Own [] w2 wr ∧ scScan (L.drop i) i T = R))
        case atStart => exact ⟨0, _, [], rfl, rfl, by simp, Nat.le_refl _, Sl.nil _ _ _, Own.refl _ _, hst.out⟩
        case round =>
          obtain ⟨i, v, T, rfl, rfl, hg, hTl, hS, hOr, hF⟩ := hrel
          have hO := hO2.out.trans hOr
          obtain ⟨av, cv, rfl⟩ := hS.sl
          have hw1 : IntKind.i64.wrap ((i : Int) + 1) = ((i + 1 : Nat) : Int) := by rw [IntKind.wrap_i64]; omega
          clear hst
          by_cases hlt : i < L.length
          · have h1 : (i : Int) < L.length := by omega
            have h0 : (0 : Int) ≤ i := by omega
            obtain ⟨x, hx⟩ : ∃ x, L[i]? = some x := ⟨_, List.getElem?_eq_getElem hlt⟩
            obtain ⟨b0, o0, ha1, hC⟩ := (hR.out.own hOr (by simp)).at_ wEnc_len (by omega)
            first | subst ha1 | cases ha1
            have c0 : wr.cell? ⟨b0, o0 + i, none⟩ = some (.string x) := by simpa using hC i x 0 (.string x) hx rfl
            rw [scScan_at hx] at hF
            obtain ⟨⟨⟨x1, x2, x3, x4⟩, z⟩, hs⟩ : ∃ r, scParse x = r := ⟨_, rfl⟩
            rw [hs] at hF
            have cP := Lib.hid (rparse_any x wr)
            replace hs := Lib.hid hs
            replace hx := Lib.hid hx
            replace hg := Lib.hid hg
            replace hO := Lib.hid hO
            replace hOr := Lib.hid hOr
            replace hS := Lib.hid hS
            clear hC
            by_cases hz : z = 0
            · rw [if_neg (by simpa using hz)] at hF
              have q1 : (z != 0) = false := by simpa using hz
              replace hF := Lib.hid hF
              clear hz
              go_wp2_with fail
              with_reducible refine cP.out.mono ?_
              rintro e w3 ⟨hP, hO3⟩
              obtain rfl := parseP_is hP hs.out
              clear hP cP
              have hb3 := heap_alloc_new w3 (.cells #[.int .i64 x1, .int .i64 x2, .int .i64 x3, .string x4] 23)
              have hA3 := (Own.refl [] w3).alloc (.cells #[.int .i64 x1, .int .i64 x2, .int .i64 x3, .string x4] 23)
              have hOc := Lib.hid (((hOr.out.trans hO3).trans hA3).alloc (.cells #[.int .i64 x1, .int .i64 x2, .int .i64 x3, .string x4] 23))
              have hSb := Lib.hid (((hS.out.nil' hO3).nil' hA3).nil' ((Own.refl [] _).alloc (.cells #[.int .i64 x1, .int .i64 x2, .int .i64 x3, .string x4] 23)))
              have hRb := Lib.hid (Reads.new (enc := Ev.cells) (T := 23) (w3.alloc (.cells #[.int .i64 x1, .int .i64 x2, .int .i64 x3, .string x4] 23)) ⟨x1, x2, x3, x4⟩ 1)
              have hlc : (w3.alloc (.cells #[.int .i64 x1, .int .i64 x2, .int .i64 x3, .string x4] 23)).heap.size = w3.heap.size + 1 := by simp
              rw [hlc] at hRb
              have hl1 := Lib.hid (show (T.length + 1) * 40 ≤ 140737488355328 by omega)
              have hl2 := Lib.hid (show T.length + 1 ≤ maxLen by unfold maxLen; omega)
              clear hb3 hA3 hlc hO3
              go_wp2_with (at_builtin; refine wpList_append_new rfl (.tmp 48) (.tmp 50) rfl evElem hOc.out rfl hSb.out rfl hRb.out hl1.out hl2.out ?_; intro va w5 hS5 hO5 _ _; replace hS5 := Lib.hid hS5; replace hO5 := Lib.hid hO5)
              go_roundg (L.length - (i + 1))
              case rel => exact ⟨i + 1, va, T ++ [⟨x1, x2, x3, x4⟩], rfl, by go_num, by omega, by simp; omega, hS5.out, hO5.out, hF.out⟩
              case measure => have := hg.out; omega
            · rw [if_pos hz] at hF
              have q1 : (z != 0) = true := by simpa using hz
              replace hF := Lib.hid hF
              clear hz
              go_wp2_with fail
              with_reducible refine cP.out.mono ?_
              rintro e w3 ⟨hP, hO3⟩
              obtain rfl := parseP_is hP hs.out
              clear hP cP
              replace hO3 := Lib.hid ((hO.out.trans hO3).alloc (.cells #[.int .i64 x1, .int .i64 x2, .int .i64 x3, .string x4] 23))
              go_wp2_with fail
              go_ret3
              exact ⟨by rw [← hF.out]; exact pallP_none i z, hO3.out⟩
          · have h1 : ¬ (i : Int) < L.length := by omega
            rw [List.drop_of_length_le (by omega)] at hF
            have hF0 : ((T, 0, 0) : List Ev × Int × Int) = R := hF
            subst hF0
            replace hS := Lib.hid hS
            replace hO := Lib.hid hO
            replace hOr := Lib.hid hOr
            clear hF hg
            go_wp2_with fail
            go_ret3
            exact ⟨⟨_, rfl, hS.out.mono hO2.out.size⟩, hO.out⟩
end Go.Proofs.YtnppgidbfmbdgaaDoor
