/- ScriptBack: what was printed is parsed as it was; a line that is parsed is printed as it stood. -/
import Derived.Test.YtnppgidbfmbdgaaDoorScriptPlain
import Derived.Test.YtnppgidbfmbdgaaDoorScriptPrint
set_option linter.unusedSimpArgs false
set_option linter.unusedVariables false
namespace Go.Proofs.YtnppgidbfmbdgaaDoor
open Go.RowKit

theorem awake_parse : scParse ⟨#[98, 121, 116, 101, 115, 32, 48, 32, 99, 48, 48, 48]⟩ = (⟨1, 0, 0, ⟨#[192, 0]⟩⟩, 0) := by
  have h : scPrint 1 0 0 ⟨#[192, 0]⟩ = (⟨#[98, 121, 116, 101, 115, 32, 48, 32, 99, 48, 48, 48]⟩, 0) := by
    have hl : scLine 1 0 ⟨#[192, 0]⟩ = ⟨#[98, 121, 116, 101, 115, 32, 48, 32, 99, 48, 48, 48]⟩ := by
      apply ByteArray.ext
      apply Array.ext'
      rw [line_list, if_pos rfl, show (scDec (0 : Int)).data.toList = [48] by rw [show (0 : Int) = ((0 : Nat) : Int) from rfl, scDec_list, dec_small (by omega)]; rfl]
      rfl
    have h1 : (⟨#[192, 0]⟩ : ByteArray).size = 2 := rfl
    have h2 : (⟨#[98, 121, 116, 101, 115, 32, 48, 32, 99, 48, 48, 48]⟩ : ByteArray).size = 12 := rfl
    unfold scPrint scM
    rw [if_neg (by simp), if_neg (show ¬ (1 : Int) = 3 by omega), if_neg (by omega), hl, if_neg (by omega)]
  exact parse_print h
theorem parseP_is {r : Ev × Int} {k c n z : Int} {d : ByteArray} {e : Ending} (h : ParseP r e) (hr : r = (⟨k, c, n, d⟩, z)) : e = .returned (.tuple #[.agg #[.int .i64 k, .int .i64 c, .int .i64 n, .string d], .int .i64 z]) := by rw [hr] at h; exact h
set_option maxRecDepth 100000 in
set_option maxHeartbeats 4000000 in
theorem awake_any (w : World) (hm : MaxCell w) : Calls Tryd.prog 12 #[] w fun e w' => e = .returned (.bool true) ∧ Own [] w w' := by
  have cP := Lib.hid (parse_any ⟨#[98, 121, 116, 101, 115, 32, 48, 32, 99, 48, 48, 48]⟩ w hm)
  go_enter Tryd.func12, Tryd.ntmps12
  go_wp2_with fail
  with_reducible refine cP.out.mono ?_
  rintro e w2 ⟨hP, hO2⟩
  obtain rfl := parseP_is hP awake_parse
  replace hO2 := Lib.hid (hO2.alloc (.cells #[.int .i64 1, .int .i64 0, .int .i64 0, .string ⟨#[192, 0]⟩] 23))
  clear hP
  go_wp2_with fail
  go_ret
  exact ⟨rfl, hO2.out⟩
theorem printP_some {r : ByteArray × Int} {e : Ending} (h : PrintP r e) : ∃ s n, e = .returned (.tuple #[.string s, .int .i64 n]) := ⟨_, _, h⟩
theorem printP_is {r : ByteArray × Int} {s : ByteArray} {n : Int} {e : Ending} (h : PrintP r e) (hr : r = (s, n)) : e = .returned (.tuple #[.string s, .int .i64 n]) := by rw [hr] at h; exact h
theorem scBytes_ge (d : ByteArray) : d.size ≤ (scBytes d).size := by
  unfold scBytes
  split
  · omega
  · have := hexL_len d.data.toList
    rw [Lib.size_eq (⟨(hexL _).toArray⟩ : ByteArray)]
    rw [Lib.size_eq]
    simp at this ⊢
    omega
theorem parse_size {s : ByteArray} {y : Ev} {z : Int} (h : scParse s = (y, z)) : y.d.size ≤ 32768 := by
  have h0 : (⟨#[]⟩ : ByteArray).size = 0 := rfl
  unfold scParse at h
  split at h
  · cases h; show (⟨#[]⟩ : ByteArray).size ≤ _; omega
  rename_i hsz
  split at h
  · rename_i e he
    cases h
    cases hl : splB 32 s with
    | nil => rw [hl] at he; simp [scParts] at he
    | cons a r =>
      rw [hl] at he
      unfold scParts at he
      cases hk : scKind a with
      | none => simp only [hk] at he; cases he
      | some k =>
        simp only [hk] at he
        unfold scFill at he
        split at he
        · split at he
          · rename_i b c
            split at he
            · rename_i n d hn hd
              cases he
              have hc := scRaw_back hd
              have h1 := splB_mem_size (c := 32) (s := s) (x := c) (by rw [hl]; simp)
              have h2 := scBytes_ge ⟨d.toArray⟩
              rw [hc] at h2
              show (⟨d.toArray⟩ : ByteArray).size ≤ _
              omega
            · cases he
          · cases he
        · split at he
          · split at he
            · cases he
              split
              · show (⟨#[]⟩ : ByteArray).size ≤ _; omega
              · show (⟨#[]⟩ : ByteArray).size ≤ _; omega
            · cases he
          · cases he
  · cases h; show (⟨#[]⟩ : ByteArray).size ≤ _; omega
set_option maxRecDepth 100000 in
set_option maxHeartbeats 4000000 in
theorem scriptBack_own (k c n : Int) (d line : ByteArray) (w : World) (hT : Pow10 w) (hm : MaxCell w) :
    Calls Tryd.prog 4 #[.agg #[.int .i64 k, .int .i64 c, .int .i64 n, .string d], .string line] w fun e w' => e = .returned (.bool true) ∧ Own [] w w' := by
  have hO1 : Own [] w (w.alloc (.cells #[.int .i64 k, .int .i64 c, .int .i64 n, .string d] 23)) := (Own.refl _ _).alloc _
  have hbk := Lib.hid (heap_alloc_new w (.cells #[.int .i64 k, .int .i64 c, .int .i64 n, .string d] 23))
  obtain ⟨⟨⟨y1, y2, y3, y4⟩, z⟩, hy⟩ : ∃ r, scParse line = r := ⟨_, rfl⟩
  have hy4 : y4.size ≤ 32768 := parse_size hy
  have cPa := Lib.hid (fun W h => parse_any line W h)
  have cPy := Lib.hid (fun W h => print_any y1 y2 y3 y4 W h)
  have hz : (z != 0) = true ∨ z = 0 ∧ Hid (scPrint y1 y2 y3 y4 = (line, 0)) := by
    by_cases h : z = 0
    · subst h; exact .inr ⟨rfl, Lib.hid (print_parse hy)⟩
    · exact .inl (by simpa using h)
  replace hy := Lib.hid hy
  obtain ⟨⟨s, f⟩, hs⟩ : ∃ r, scPrint k c n d = r := ⟨_, rfl⟩
  have cPr := Lib.hid (print_any k c n d (w.alloc (.cells #[.int .i64 k, .int .i64 c, .int .i64 n, .string d] 23)) (pow10_own hT hO1))
  by_cases hf : f = 0
  · subst hf
    have hp := parse_print hs
    have cPs := Lib.hid (fun W h => parse_any s W h)
    obtain ⟨⟨x1, x2, x3, x4⟩, hx⟩ : ∃ r, scWant k c n d = r := ⟨_, rfl⟩
    rw [hx] at hp
    have hc : (((k == 3) = true ∧ (k == 1) = false ∧ x1 = k ∧ x2 = 0 ∧ x3 = n ∧ x4 = ⟨#[]⟩) ∨ ((k == 3) = false ∧ (k == 1) = true ∧ x1 = k ∧ x2 = c ∧ x3 = 0 ∧ x4 = d)) ∨ ((k == 3) = false ∧ (k == 1) = false ∧ x1 = k ∧ x2 = c ∧ x3 = 0 ∧ x4 = ⟨#[]⟩) := by
      unfold scWant at hx
      by_cases h3 : k = 3
      · rw [if_pos h3] at hx; cases hx; exact .inl (.inl ⟨by simpa using h3, by rw [h3]; rfl, h3.symm, rfl, rfl, rfl⟩)
      · rw [if_neg h3] at hx
        by_cases h1 : k = 1
        · rw [if_pos h1] at hx; cases hx; exact .inl (.inr ⟨by simpa using h3, by simpa using h1, h1.symm, rfl, rfl, rfl⟩)
        · rw [if_neg h1] at hx; cases hx; exact .inr ⟨by simpa using h3, by simpa using h1, rfl, rfl, rfl, rfl⟩
    replace hp := Lib.hid hp
    replace hs := Lib.hid hs
    replace hO1 := Lib.hid hO1
    clear hx
    rcases hc with (⟨q3, q1, rfl, rfl, rfl, rfl⟩ | ⟨q3, q1, rfl, rfl, rfl, rfl⟩) | ⟨q3, q1, rfl, rfl, rfl, rfl⟩
    all_goals
      go_enter Tryd.func4, Tryd.ntmps4
      go_wp2_with fail
      with_reducible refine cPr.out.mono ?_
      rintro e w2 ⟨hP, hO2⟩
      obtain rfl := printP_is hP hs.out
      clear hP
      have hb2 := Lib.hid (hO2.heap hbk.out (by simp))
      replace hO2 := Lib.hid (hO1.out.trans hO2)
      go_wp2_with fail
      with_reducible refine (cPs.out _ (by exact hm.own hO2.out)).mono ?_
      rintro e w3 ⟨hP, hO3⟩
      obtain rfl := parseP_is hP hp.out
      clear hP
      obtain ⟨f0, f1, f2, f3⟩ := blk4 (hO3.heap hb2.out (by simp))
      have z4 := lt_of_heap (hO3.heap hb2.out (by simp))
      replace hO3 := Lib.hid (hO2.out.trans hO3)
      go_wp2_with fail
      with_reducible refine (cPa.out _ (by exact hm.own ((hO3.out.alloc _).alloc _))).mono ?_
      rintro e w7 ⟨hP, hO7⟩
      obtain rfl := parseP_is hP hy.out
      clear hP
      have hX7 := Lib.hid ((((hO3.out.alloc _).alloc _).trans hO7).alloc (.cells #[.int .i64 y1, .int .i64 y2, .int .i64 y3, .string y4] 23))
      clear hO7
      rcases hz with hz | ⟨rfl, hz⟩
      · go_wp2_with fail
        with_reducible refine (cPy.out _ (by exact pow10_own hT hX7.out)).mono ?_
        rintro e w8 ⟨hP, hO8⟩
        obtain ⟨pt, pi, hpp⟩ := printP_some hP
        subst hpp
        replace hX8 := Lib.hid (hX7.out.trans hO8)
        clear hP hO8
        go_wp2_with fail
        with_reducible refine (awake_any _ (by exact hm.own hX8.out)).mono ?_
        rintro e w9 ⟨rfl, hO9⟩
        replace hO9 := Lib.hid (hX8.out.trans hO9)
        go_wp2_with fail
        go_ret
        exact ⟨rfl, hO9.out⟩
      · go_wp2_with fail
        with_reducible refine (cPy.out _ (by exact pow10_own hT hX7.out)).mono ?_
        rintro e w8 ⟨hP, hO8⟩
        obtain rfl := printP_is hP hz.out
        replace hX8 := Lib.hid (hX7.out.trans hO8)
        clear hP hO8
        go_wp2_with fail
        with_reducible refine (awake_any _ (by exact hm.own hX8.out)).mono ?_
        rintro e w9 ⟨rfl, hO9⟩
        replace hO9 := Lib.hid (hX8.out.trans hO9)
        go_wp2_with fail
        go_ret
        exact ⟨rfl, hO9.out⟩
  · have hf2 : (f == 0) = false := by simpa using hf
    replace hs := Lib.hid hs
    replace hO1 := Lib.hid hO1
    clear hf
    go_enter Tryd.func4, Tryd.ntmps4
    go_wp2_with fail
    with_reducible refine cPr.out.mono ?_
    rintro e w2 ⟨hP, hO2⟩
    obtain rfl := printP_is hP hs.out
    have hX := Lib.hid (hO1.out.trans hO2)
    clear hP hO2
    go_wp2_with fail
    with_reducible refine (cPa.out _ (by exact hm.own hX.out)).mono ?_
    rintro e w7 ⟨hP, hO7⟩
    obtain rfl := parseP_is hP hy.out
    clear hP
    have hX7 := Lib.hid ((hX.out.trans hO7).alloc (.cells #[.int .i64 y1, .int .i64 y2, .int .i64 y3, .string y4] 23))
    clear hO7
    rcases hz with hz | ⟨rfl, hz⟩
    · go_wp2_with fail
      with_reducible refine (cPy.out _ (by exact pow10_own hT hX7.out)).mono ?_
      rintro e w8 ⟨hP, hO8⟩
      obtain ⟨pt, pi, hpp⟩ := printP_some hP
      subst hpp
      replace hX8 := Lib.hid (hX7.out.trans hO8)
      clear hP hO8
      go_wp2_with fail
      with_reducible refine (awake_any _ (by exact hm.own hX8.out)).mono ?_
      rintro e w9 ⟨rfl, hO9⟩
      replace hO9 := Lib.hid (hX8.out.trans hO9)
      go_wp2_with fail
      go_ret
      exact ⟨rfl, hO9.out⟩
    · go_wp2_with fail
      with_reducible refine (cPy.out _ (by exact pow10_own hT hX7.out)).mono ?_
      rintro e w8 ⟨hP, hO8⟩
      obtain rfl := printP_is hP hz.out
      replace hX8 := Lib.hid (hX7.out.trans hO8)
      clear hP hO8
      go_wp2_with fail
      with_reducible refine (awake_any _ (by exact hm.own hX8.out)).mono ?_
      rintro e w9 ⟨rfl, hO9⟩
      replace hO9 := Lib.hid (hX8.out.trans hO9)
      go_wp2_with fail
      go_ret
      exact ⟨rfl, hO9.out⟩
theorem scriptBack_walk (e : Ev) (line : ByteArray) (w : World) (hl : line.size ≤ 140737488351232) (h : Pow10 w ∧ MaxCell w) :
    Calls Tryd.prog 4 #[.agg #[.int .i64 e.k, .int .i64 e.c, .int .i64 e.n, .string e.d], .string line] w fun e w' => e = .returned (.bool true) ∧ Below w.heap.size w w' :=
  (scriptBack_own e.k e.c e.n e.d line w h.1 h.2).mono fun _ _ ⟨a, b⟩ => ⟨a, b.below (Nat.le_refl _) (by simp)⟩
end Go.Proofs.YtnppgidbfmbdgaaDoor
