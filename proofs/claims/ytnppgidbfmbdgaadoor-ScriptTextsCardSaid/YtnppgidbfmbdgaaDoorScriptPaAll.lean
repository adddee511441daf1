/- Scripts (chapter 40): a text's events: the program's. -/
import Derived.Test.YtnppgidbfmbdgaaDoorScriptPaPlain
import Derived.Deep.LoopGhost
set_option linter.unusedSimpArgs false
set_option linter.unusedVariables false
namespace Go.Proofs.YtnppgidbfmbdgaaDoor
open Go.RowKit

def PAllP (B : Nat) (r : List Ev × Int × Int) (e : Ending) (w' : World) : Prop := ∃ v, e = .returned (.tuple #[v, .int .i64 r.2.1, .int .i64 r.2.2]) ∧ Sl 23 Ev.cells 4 B w' v r.1
theorem pallP_none {B : Nat} {w' : World} (i z : Int) : PAllP B ([], i, z) (.returned (.tuple #[.slice none 0 0, .int .i64 i, .int .i64 z])) w' := ⟨_, rfl, Sl.nil _ _ _⟩
def RowsP (w : World) (l : List ByteArray) (e : Ending) (w' : World) : Prop := ∃ a c, e = .returned (.slice a l.length c) ∧ Reads wEnc w' (.slice a l.length c) l ∧ Own [] w w'
set_option maxRecDepth 100000 in
set_option maxHeartbeats 4000000 in
theorem rows_any (s : ByteArray) (w : World) (hs : s.size ≤ 32768) (hm : MaxCell w) : Calls Tryd.prog 31 #[.string s] w (RowsP w (rowsOf s)) := by
  by_cases hz : s.size = 0
  · have k3 : s.toList = [] := List.eq_nil_of_length_eq_zero (by rw [size_toList]; exact hz)
    have k2 : s.toList.isEmpty = true := by rw [k3]; rfl
    have e1 : rowsOf s = [] := by unfold rowsOf; rw [if_pos hz]
    rw [e1]
    clear e1 hz
    go_enter Tryd.func31, Tryd.ntmps31
    go_wp2_with fail
    go_ret
    exact ⟨none, 0, rfl, .inl ⟨rfl, rfl⟩, Own.refl _ _⟩
  · have k2 : s.toList.isEmpty = false := by rw [List.isEmpty_eq_false_iff]; intro h; apply hz; rw [← size_toList, h]; rfl
    have e1 : rowsOf s = splB 10 ⟨(Lib.trimSuffix s.data.toList [10]).toArray⟩ := by unfold rowsOf; rw [if_neg hz]
    rw [e1]
    have cT := Any.strings_TrimSuffix Tryd.laysTrimSuffix s ⟨#[10]⟩ w (by omega)
    rw [show (⟨#[10]⟩ : ByteArray).data.toList = [10] from rfl] at cT
    have hlen : (⟨(Lib.trimSuffix s.data.toList [10]).toArray⟩ : ByteArray).size ≤ 1000000 := by
      have : (Lib.trimSuffix s.data.toList [10]).length ≤ s.data.toList.length := by
        unfold Lib.trimSuffix
        split
        · exact List.length_take_le' _ _
        · exact Nat.le_refl _
      rw [Lib.size_eq]
      rw [← Lib.size_eq] at this
      simp only []
      omega
    generalize (⟨(Lib.trimSuffix s.data.toList [10]).toArray⟩ : ByteArray) = t at *
    have cS := Lib.hid (psplit_any t 10 w hlen hm)
    replace cT := Lib.hid cT
    clear e1 hz hlen
    go_enter Tryd.func31, Tryd.ntmps31
    go_wp2_with (first
      | (go_at_call 38; refine cT.out.mono ?_; rintro e w2 ⟨rfl, hw2⟩; rw [hw2]; clear hw2 w2)
      | (go_at_call 22; ((with_reducible refine cS.out.mono ?_); rintro e w3 ⟨v, rfl, hS, hO⟩; have hR := hS.reads wEnc_len; obtain ⟨a1, c1, rfl⟩ := hS.sl; replace hR := Lib.hid hR; replace hO := Lib.hid hO; clear hS)))
    go_ret
    exact ⟨a1, c1, rfl, hR.out, hO.out⟩
set_option maxRecDepth 100000 in
set_option maxHeartbeats 4000000 in
theorem parseAll_any (s : ByteArray) (w : World) (hm : MaxCell w) :
    Calls Tryd.prog 15 #[.string s] w fun e w' => PAllP w.heap.size (scParseAll s) e w' ∧ Own [] w w' := by
  by_cases hs : 32768 < s.size
  · have e1 : scParseAll s = ([], 0, 3) := by unfold scParseAll; rw [if_pos hs]
    rw [e1]
    have b1 : (32768 : Int) < s.size := by omega
    clear hs e1
    go_enter Tryd.func15, Tryd.ntmps15
    go_wp2_with fail
    go_ret3
    exact ⟨pallP_none 0 3, Own.refl _ _⟩
  · have b1 : ¬ (32768 : Int) < s.size := by omega
    have cR := rows_any s w (by omega) hm
    have hll := rows_len s
    have eA : scParseAll s = if 512 < (rowsOf s).length then ([], 0, 6) else scScan (rowsOf s) 0 [] := by unfold scParseAll; rw [if_neg hs]
    obtain ⟨L, hL⟩ : ∃ L, rowsOf s = L := ⟨_, rfl⟩
    rw [hL] at cR hll eA
    replace cR := Lib.hid cR
    clear hL hs hll
    by_cases h5 : 512 < L.length
    · rw [if_pos h5] at eA
      rw [eA]
      have b2 : (512 : Int) < L.length := by omega
      clear eA h5
      go_enter Tryd.func15, Tryd.ntmps15
      go_wp2_with (go_at_call 31; ((with_reducible refine cR.out.mono ?_); rintro e w2 ⟨a1, c1, rfl, hR, hO⟩; replace hR := Lib.hid hR; replace hO := Lib.hid hO))
      go_ret3
      exact ⟨pallP_none 0 6, hO.out⟩
    · rw [if_neg h5] at eA
      have b2 : ¬ (512 : Int) < L.length := by omega
      have hL5 : L.length ≤ 512 := by omega
      rw [eA]
      obtain ⟨R, hR⟩ : ∃ R, scScan L 0 [] = R := ⟨_, rfl⟩
      rw [hR]
      have hst := Lib.hid (show scScan (L.drop 0) 0 [] = R by rw [List.drop_zero]; exact hR)
      clear eA h5 hR
      go_enter Tryd.func15, Tryd.ntmps15
      go_wp2_with (go_at_call 31; ((with_reducible refine cR.out.mono ?_); rintro e w2 ⟨a1, c1, rfl, hR, hO2⟩; replace hR := Lib.hid hR; replace hO2 := Lib.hid hO2; clear cR))
      go_loopg [6, 7, 8, 9, 10, 21] L.length (fun g s6 _ _ _ _ s21 wr => ∃ (i : Nat) (v : Value) (T : List Ev), s6 = v ∧ s21 = .int .i64 i ∧ i + g = L.length ∧ T.length ≤ i ∧ Aside (Sl 23 Ev.cells 4 w2.heap.size wr v T ∧ Own [] w2 wr ∧ scScan (L.drop i) i T = R))
      case atStart => exact ⟨0, _, [], rfl, rfl, by simp, Nat.le_refl _, Sl.nil _ _ _, Own.refl _ _, hst.out⟩
      case round =>
        obtain ⟨i, v, T, rfl, rfl, hg, hTl, hS, hOr, hF⟩ := hrel
        have hO := hO2.out.trans hOr
        obtain ⟨av, cv, rfl⟩ := hS.sl
        have hw1 : IntKind.i64.wrap ((i : Int) + 1) = ((i + 1 : Nat) : Int) := by rw [IntKind.wrap_i64]; omega
        clear hst
        by_cases hlt : i < L.length
        · have h1 : (i : Int) < L.length := by omega
          have h0 : (0 : Int) ≤ i := by omega
          obtain ⟨x, hx⟩ : ∃ x, L[i]? = some x := ⟨_, List.getElem?_eq_getElem hlt⟩
          obtain ⟨b0, o0, ha1, hC⟩ := (hR.out.own hOr (by simp)).at_ wEnc_len (by omega)
          subst ha1
          have c0 : wr.cell? ⟨b0, o0 + i, none⟩ = some (.string x) := by simpa using hC i x 0 (.string x) hx rfl
          rw [scScan_at hx] at hF
          obtain ⟨⟨⟨x1, x2, x3, x4⟩, z⟩, hs⟩ : ∃ r, scParse x = r := ⟨_, rfl⟩
          rw [hs] at hF
          have cP := Lib.hid (parse_any x wr (hm.own hO))
          replace hs := Lib.hid hs
          replace hx := Lib.hid hx
          replace hg := Lib.hid hg
          replace hO := Lib.hid hO
          replace hOr := Lib.hid hOr
          replace hS := Lib.hid hS
          clear hC
          by_cases hz : z = 0
          · rw [if_neg (by simpa using hz)] at hF
            have q1 : (z != 0) = false := by simpa using hz
            replace hF := Lib.hid hF
            clear hz
            go_wp2_with fail
            with_reducible refine cP.out.mono ?_
            rintro e w3 ⟨hP, hO3⟩
            obtain rfl := parseP_is hP hs.out
            clear hP cP
            have hb3 := heap_alloc_new w3 (.cells #[.int .i64 x1, .int .i64 x2, .int .i64 x3, .string x4] 23)
            have hA3 := (Own.refl [] w3).alloc (.cells #[.int .i64 x1, .int .i64 x2, .int .i64 x3, .string x4] 23)
            have hOc := Lib.hid (((hOr.out.trans hO3).trans hA3).alloc (.cells #[.int .i64 x1, .int .i64 x2, .int .i64 x3, .string x4] 23))
            have hSb := Lib.hid (((hS.out.nil' hO3).nil' hA3).nil' ((Own.refl [] _).alloc (.cells #[.int .i64 x1, .int .i64 x2, .int .i64 x3, .string x4] 23)))
            have hRb := Lib.hid (Reads.new (enc := Ev.cells) (T := 23) (w3.alloc (.cells #[.int .i64 x1, .int .i64 x2, .int .i64 x3, .string x4] 23)) ⟨x1, x2, x3, x4⟩ 1)
            have hlc : (w3.alloc (.cells #[.int .i64 x1, .int .i64 x2, .int .i64 x3, .string x4] 23)).heap.size = w3.heap.size + 1 := by simp
            rw [hlc] at hRb
            have hl1 := Lib.hid (show (T.length + 1) * 40 ≤ 140737488355328 by omega)
            have hl2 := Lib.hid (show T.length + 1 ≤ maxLen by unfold maxLen; omega)
            clear hb3 hA3 hlc hO3
            go_wp2_with (at_builtin; refine wpList_append_new rfl (.tmp 35) (.tmp 37) rfl evElem hOc.out rfl hSb.out rfl hRb.out hl1.out hl2.out ?_; intro va w5 hS5 hO5 _ _; replace hS5 := Lib.hid hS5; replace hO5 := Lib.hid hO5)
            go_roundg (L.length - (i + 1))
            case rel => exact ⟨i + 1, va, T ++ [⟨x1, x2, x3, x4⟩], rfl, by go_num, by omega, by simp; omega, hS5.out, hO5.out, hF.out⟩
            case measure => have := hg.out; omega
          · rw [if_pos hz] at hF
            have q1 : (z != 0) = true := by simpa using hz
            replace hF := Lib.hid hF
            clear hz
            go_wp2_with fail
            with_reducible refine cP.out.mono ?_
            rintro e w3 ⟨hP, hO3⟩
            obtain rfl := parseP_is hP hs.out
            clear hP cP
            replace hO3 := Lib.hid ((hO.out.trans hO3).alloc (.cells #[.int .i64 x1, .int .i64 x2, .int .i64 x3, .string x4] 23))
            go_wp2_with fail
            go_ret3
            exact ⟨by rw [← hF.out]; exact pallP_none i z, hO3.out⟩
        · have h1 : ¬ (i : Int) < L.length := by omega
          rw [List.drop_of_length_le (by omega)] at hF
          have hF0 : ((T, 0, 0) : List Ev × Int × Int) = R := hF
          subst hF0
          replace hS := Lib.hid hS
          replace hO := Lib.hid hO
          replace hOr := Lib.hid hOr
          clear hF hg
          go_wp2_with fail
          go_ret3
          exact ⟨⟨_, rfl, hS.out.mono hO2.out.size⟩, hO.out⟩
end Go.Proofs.YtnppgidbfmbdgaaDoor
