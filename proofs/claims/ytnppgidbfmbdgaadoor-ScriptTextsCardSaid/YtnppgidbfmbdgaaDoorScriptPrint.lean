/- Scripts (chapter 40): an event's line, of both. -/
import Derived.Test.YtnppgidbfmbdgaaDoorScriptBytes
import Derived.Test.YtnppgidbfmbdgaaDoorScriptDig
import Derived.Lib.ItoaLen
set_option linter.unusedSimpArgs false
set_option linter.unusedVariables false
namespace Go.Proofs.YtnppgidbfmbdgaaDoor
open Go.RowKit Go.Sort

/-- The library's table of powers of ten. -/
abbrev Pow10 (w : World) : Prop := Lib.TabIs Tryd.prog w "internal/strconv.uint64pow10" .u64 Lib.pow10Tab
theorem tabIs_own {n : String} {g : Nat} {k : IntKind} {zs : List Int} {w w' : World} (hg : Tryd.prog.globalNamed n = some g) (h : Lib.TabIs Tryd.prog w n k zs) (ho : Own [] w w') : Lib.TabIs Tryd.prog w' n k zs := by
  unfold Lib.TabIs World.var? at h ⊢
  rw [hg] at h ⊢
  simp only [Option.bind_some] at h ⊢
  have hlt : g < w.heap.size := by
    rcases Nat.lt_or_ge g w.heap.size with h' | h'
    · exact h'
    · rw [Array.getElem?_eq_none h'] at h; cases h
  rw [ho.block g hlt (by simp)]
  exact h
theorem pow10_own {w w' : World} (h : Pow10 w) (ho : Own [] w w') : Pow10 w' := tabIs_own (g := 0) (by kernel_rfl) h ho
theorem own_grow (w : World) (k : Nat) (os : Array Obj) : Own [] w (grow (w.drewN k) os) :=
  ⟨rfl, rfl, rfl, by simp [grow], fun b hb _ => by
    have hb' : b < (w.drewN k).heap.size := hb
    simp only [grow]; rw [Array.getElem?_append_left hb']; rfl⟩
/-- A number's digits. -/
def scDec (m : Int) : ByteArray := ⟨(Lib.decDigits m.toNat).toArray⟩
theorem nDigits_10 {u : Nat} (h : u ≤ 1073741824) : Lib.nDigits u ≤ 10 := by
  rw [Lib.nDigits]; split
  · omega
  rw [Lib.nDigits]; split
  · omega
  rw [Lib.nDigits]; split
  · omega
  rw [Lib.nDigits]; split
  · omega
  rw [Lib.nDigits]; split
  · omega
  rw [Lib.nDigits]; split
  · omega
  rw [Lib.nDigits]; split
  · omega
  rw [Lib.nDigits]; split
  · omega
  rw [Lib.nDigits]; split
  · omega
  rw [Lib.nDigits]; split
  · omega
  omega
theorem scDec_size {m : Int} (h : m ≤ 1073741824) : (scDec m).size ≤ 10 := by
  unfold scDec
  rw [Lib.size_eq]
  simp only []
  rw [Lib.decDigits_length]
  exact nDigits_10 (by omega)
theorem itoa_any (m : Int) (h0 : 0 ≤ m) (h1 : m ≤ 1073741824) (w : World) (hT : Pow10 w) : Calls Tryd.prog 19 #[.int .i64 m] w fun e w' => e = .returned (.string (scDec m)) ∧ Own [] w w' :=
  (Any.strconv_Itoa Tryd.laysItoa m (by omega) (by omega) w hT).mono (by
    rintro e w' ⟨rfl, k, os, rfl⟩
    refine ⟨?_, own_grow w k os⟩
    unfold scDec
    obtain ⟨u, rfl⟩ := Int.eq_ofNat_of_zero_le h0
    rw [show Lib.itoa ((u : Nat) : Int) = Lib.decDigits u from Lib.itoa_nonneg u]
    rfl)
theorem rdigits_any (m : Int) (h0 : 0 ≤ m) (h1 : m ≤ 1073741824) (w : World) : Calls Tryd.prog 21 #[.int .i64 m] w fun e w' => e = .returned (.string (scDec m)) ∧ Own [] w w' := by
  obtain ⟨u, rfl⟩ := Int.eq_ofNat_of_zero_le h0
  exact digits_any u (by omega) w
theorem scWord_size (k : Int) : (scWord k).size ≤ 5 := by
  unfold scWord
  split
  · decide
  split
  · decide
  split
  · decide
  split
  · decide
  split
  · decide
  · decide
theorem scBytes_size (s : ByteArray) : (scBytes s).size ≤ 2 * s.size + 1 := by
  unfold scBytes
  split
  · have : (⟨#[45]⟩ : ByteArray).size = 1 := rfl
    omega
  · rw [Lib.size_eq]
    simp only []
    rw [hexL_len, ← Lib.size_eq]
    omega
/-- The word and the number. -/
def scHead (k m : Int) : ByteArray := scWord k ++ ⟨#[32]⟩ ++ scDec m
/-- A line. -/
def scLine (k m : Int) (d : ByteArray) : ByteArray := if k = 1 then scHead k m ++ (⟨#[32]⟩ ++ scBytes d) else scHead k m
def scM (k c n : Int) : Int := if k = 3 then n else c
/-- What an event's line comes to, and an error's number. -/
def scPrint (k c n : Int) (d : ByteArray) : ByteArray × Int :=
  if ¬ (0 ≤ k ∧ k ≤ 4) then (⟨#[]⟩, 11)
  else if scM k c n < 0 ∨ 1073741824 < scM k c n then (⟨#[]⟩, 5)
  else if (k = 1 ∧ 32768 < d.size) ∨ 32768 < (scLine k (scM k c n) d).size then (⟨#[]⟩, 3)
  else (scLine k (scM k c n) d, 0)
def PrintP (r : ByteArray × Int) (e : Ending) : Prop := e = .returned (.tuple #[.string r.1, .int .i64 r.2])
theorem printP_err (n : Int) : PrintP (⟨#[]⟩, n) (.returned (.tuple #[.string ⟨#[]⟩, .int .i64 n])) := rfl
theorem printP_ok (s : ByteArray) : PrintP (s, 0) (.returned (.tuple #[.string s, .int .i64 0])) := rfl
theorem blk4 {w : World} {b : Nat} {x0 x1 x2 x3 : Value} {T : TypeId} (h : w.heap[b]? = some (.cells #[x0, x1, x2, x3] T (0, 0))) :
    w.cell? ⟨b, 0, none⟩ = some x0 ∧ w.cell? ⟨b, 1, none⟩ = some x1 ∧ w.cell? ⟨b, 2, none⟩ = some x2 ∧ w.cell? ⟨b, 3, none⟩ = some x3 :=
  ⟨by rw [cell_of_row _ _ _ _ _ _ h]; rfl, by rw [cell_of_row _ _ _ _ _ _ h]; rfl, by rw [cell_of_row _ _ _ _ _ _ h]; rfl, by rw [cell_of_row _ _ _ _ _ _ h]; rfl⟩
theorem sc_split (k : Int) : ¬ (0 ≤ k ∧ k ≤ 4) ∨ k = 1 ∨ k = 3 ∨ k = 0 ∨ k = 2 ∨ k = 4 := by omega
set_option maxRecDepth 100000 in
set_option maxHeartbeats 4000000 in
theorem print_any (k c n : Int) (d : ByteArray) (w : World) (hT : Pow10 w) :
    Calls Tryd.prog 6 #[.agg #[.int .i64 k, .int .i64 c, .int .i64 n, .string d]] w fun e w' => PrintP (scPrint k c n d) e ∧ Own [] w w' := by
  have hO1 : Own [] w (w.alloc (.cells #[.int .i64 k, .int .i64 c, .int .i64 n, .string d] 23)) := (Own.refl _ _).alloc _
  have hbk := heap_alloc_new w (.cells #[.int .i64 k, .int .i64 c, .int .i64 n, .string d] 23)
  have cF := fun W => form_any k W
  have hO1' := Lib.hid hO1
  by_cases hk : 0 ≤ k ∧ k ≤ 4
  · have hks : scIs k = true := by unfold scIs; simpa using hk
    rw [hks] at cF
    obtain ⟨m, hm⟩ : ∃ m, scM k c n = m := ⟨_, rfl⟩
    have e0 : scPrint k c n d = if m < 0 ∨ 1073741824 < m then (⟨#[]⟩, 5) else if (k = 1 ∧ 32768 < d.size) ∨ 32768 < (scLine k m d).size then (⟨#[]⟩, 3) else (scLine k m d, 0) := by
      unfold scPrint; rw [if_neg (by simpa using hk), hm]
    rw [e0]
    replace cF := Lib.hid cF
    by_cases hr : m < 0 ∨ 1073741824 < m
    · rw [if_pos hr]
      clear hO1 hbk e0 hks
      have hq : ((scWhat k == 1) = true ∧ n = m) ∨ ((scWhat k == 1) = false ∧ c = m) := by
        unfold scM at hm
        rcases sc_split k with h | h | h | h | h | h
        · exact absurd hk h
        all_goals
          subst h
          first
            | (refine .inl ⟨rfl, ?_⟩; simpa using hm)
            | (refine .inr ⟨rfl, ?_⟩; simpa using hm)
      rcases hq with ⟨q1, rfl⟩ | ⟨q1, rfl⟩
      all_goals
        clear hm hk
        rcases hr with hr | hr
        · go_enter Tryd.func6, Tryd.ntmps6
          go_wp2_with (go_at_call 18; ((with_reducible refine (cF.out _).mono ?_); rintro e w2 ⟨rfl, rfl⟩))
          go_ret2
          exact ⟨printP_err 5, hO1'.out⟩
        · have hr2 : ¬ (_ : Int) < 0 := Int.not_lt.2 (Int.le_of_lt (Int.lt_trans (by decide : (0 : Int) < 1073741824) hr))
          go_enter Tryd.func6, Tryd.ntmps6
          go_wp2_with (go_at_call 18; ((with_reducible refine (cF.out _).mono ?_); rintro e w2 ⟨rfl, rfl⟩))
          go_ret2
          exact ⟨printP_err 5, hO1'.out⟩
    · rw [if_neg hr]
      have hm0 : 0 ≤ m := by omega
      have hm1 : m ≤ 1073741824 := by omega
      have hm2 : ¬ m < 0 := by omega
      have hm3 : ¬ 1073741824 < m := by omega
      clear hr e0 hks
      have cI := Lib.hid (itoa_any m hm0 hm1 _ (pow10_own hT hO1))
      have s1 := scWord_size k
      have s2 := scDec_size hm1
      have s3 := scBytes_size d
      have hsz1 : (scHead k m).size = (scWord k).size + 1 + (scDec m).size := by unfold scHead; rw [ByteArray.size_append, ByteArray.size_append]; rfl
      have a1 : ¬ 9223372036854775807 < (scWord k).size + 1 := by omega
      have a2 : ¬ 9223372036854775807 < (scWord k).size + 1 + (scDec m).size := by omega
      by_cases h1 : k = 1
      · have q1 : (scWhat k == 1) = false := by rw [h1]; rfl
        have q2 : (scWhat k == 2) = true := by rw [h1]; rfl
        have hcm : c = m := by rw [← hm, h1]; rfl
        subst hcm
        replace hbk := Lib.hid hbk
        have eL : scLine k c d = scHead k c ++ (⟨#[32]⟩ ++ scBytes d) := by unfold scLine; rw [if_pos h1]
        have hL : (scLine k c d).size = (scWord k).size + 1 + (scDec c).size + (1 + (scBytes d).size) := by
          rw [eL, ByteArray.size_append, ByteArray.size_append, hsz1]; rfl
        by_cases hd2 : 32768 < d.size
        · rw [if_pos (.inl ⟨h1, hd2⟩)]
          have b1 : (32768 : Int) < d.size := by omega
          clear eL hL h1 hsz1 hk hm s3 hd2 hO1
          go_enter Tryd.func6, Tryd.ntmps6
          go_wp2_with (first
            | (go_at_call 18; ((with_reducible refine (cF.out _).mono ?_); rintro e w2 ⟨rfl, rfl⟩))
            | (go_at_call 19; ((with_reducible refine cI.out.mono ?_); rintro e w3 ⟨rfl, hO3⟩; obtain ⟨f0, f1, f2, f3⟩ := blk4 (hO3.heap hbk.out (by simp)); replace hO3 := Lib.hid (hO1'.out.trans hO3))))
          go_ret2
          exact ⟨printP_err 3, hO3.out⟩
        · have b1 : ¬ (32768 : Int) < d.size := by omega
          have cB := Lib.hid (fun W => bytes_any d (by omega) W)
          have a3 : ¬ 9223372036854775807 < 1 + (scBytes d).size := by omega
          have a4 : ¬ 9223372036854775807 < (scWord k).size + 1 + (scDec c).size + (1 + (scBytes d).size) := by omega
          by_cases hd3 : 32768 < (scLine k c d).size
          · rw [if_pos (.inr hd3)]
            have b2 : (32768 : Int) < (scWord k).size + 1 + (scDec c).size + (1 + (scBytes d).size) := by omega
            clear eL hL h1 hsz1 hk hm s3 hd2 hd3 hO1
            go_enter Tryd.func6, Tryd.ntmps6
            go_wp2_with (first
              | (go_at_call 18; ((with_reducible refine (cF.out _).mono ?_); rintro e w2 ⟨rfl, rfl⟩))
              | (go_at_call 19; ((with_reducible refine cI.out.mono ?_); rintro e w3 ⟨rfl, hO3⟩; obtain ⟨f0, f1, f2, f3⟩ := blk4 (hO3.heap hbk.out (by simp)); replace hO3 := Lib.hid (hO1'.out.trans hO3)))
              | (go_at_call 10; ((with_reducible refine (cB.out _).mono ?_); rintro e w4 ⟨rfl, hO4⟩; replace hO4 := Lib.hid (hO3.out.trans hO4))))
            go_ret2
            exact ⟨printP_err 3, hO4.out⟩
          · rw [if_neg (by rintro (h | h); exact hd2 h.2; exact hd3 h)]
            have b2 : ¬ (32768 : Int) < (scWord k).size + 1 + (scDec c).size + (1 + (scBytes d).size) := by omega
            have hfin := Lib.hid (show scLine k c d = scWord k ++ ⟨#[32]⟩ ++ scDec c ++ (⟨#[32]⟩ ++ scBytes d) by rw [eL]; rfl)
            clear eL hL h1 hsz1 hk hm s3 hd2 hd3 hO1
            go_enter Tryd.func6, Tryd.ntmps6
            go_wp2_with (first
              | (go_at_call 18; ((with_reducible refine (cF.out _).mono ?_); rintro e w2 ⟨rfl, rfl⟩))
              | (go_at_call 19; ((with_reducible refine cI.out.mono ?_); rintro e w3 ⟨rfl, hO3⟩; obtain ⟨f0, f1, f2, f3⟩ := blk4 (hO3.heap hbk.out (by simp)); replace hO3 := Lib.hid (hO1'.out.trans hO3)))
              | (go_at_call 10; ((with_reducible refine (cB.out _).mono ?_); rintro e w4 ⟨rfl, hO4⟩; replace hO4 := Lib.hid (hO3.out.trans hO4))))
            go_ret2
            exact ⟨by rw [hfin.out]; exact printP_ok _, hO4.out⟩
      · have q2 : (scWhat k == 2) = false := by
          rcases sc_split k with h | h | h | h | h | h
          · exact absurd hk h
          · exact absurd h h1
          all_goals subst h; rfl
        have eL : scLine k m d = scHead k m := by unfold scLine; rw [if_neg h1]
        rw [if_neg (by rw [eL, hsz1]; rintro (h | h); exact h1 h.1; omega), eL]
        have hq : ((scWhat k == 1) = true ∧ n = m) ∨ ((scWhat k == 1) = false ∧ c = m) := by
          unfold scM at hm
          rcases sc_split k with h | h | h | h | h | h
          · exact absurd hk h
          · exact absurd h h1
          all_goals
            subst h
            first
              | (refine .inl ⟨rfl, ?_⟩; simpa using hm)
              | (refine .inr ⟨rfl, ?_⟩; simpa using hm)
        have a3 : ¬ 32768 < (scWord k).size + 1 + (scDec m).size := by omega
        have a4 : ¬ (32768 : Int) < (scWord k).size + 1 + (scDec m).size := by omega
        have hfin := Lib.hid (show scHead k m = scWord k ++ ⟨#[32]⟩ ++ scDec m from rfl)
        clear eL hsz1 s3 hk h1 hbk hO1
        rcases hq with ⟨q1, rfl⟩ | ⟨q1, rfl⟩
        all_goals
          clear hm
          go_enter Tryd.func6, Tryd.ntmps6
          go_wp2_with (first
            | (go_at_call 18; ((with_reducible refine (cF.out _).mono ?_); rintro e w2 ⟨rfl, rfl⟩))
            | (go_at_call 19; ((with_reducible refine cI.out.mono ?_); rintro e w3 ⟨rfl, hO3⟩; replace hO3 := Lib.hid (hO1'.out.trans hO3))))
          go_ret2
          exact ⟨by rw [hfin.out]; exact printP_ok _, hO3.out⟩
  · have e0 : scPrint k c n d = (⟨#[]⟩, 11) := by unfold scPrint; rw [if_pos hk]
    have hks : scIs k = false := by unfold scIs; simpa using hk
    rw [hks] at cF
    rw [e0]
    replace cF := Lib.hid cF
    clear e0 hks hO1 hbk hk
    go_enter Tryd.func6, Tryd.ntmps6
    go_wp2_with (go_at_call 18; ((with_reducible refine (cF.out _).mono ?_); rintro e w2 ⟨rfl, rfl⟩))
    go_ret2
    exact ⟨printP_err 11, hO1'.out⟩
end Go.Proofs.YtnppgidbfmbdgaaDoor
