/- Package seqs and its reference: what each call does. -/
import Derived.Test.YtahnjnmalahefaaRows
import Derived.Test.YtahnjnmalahefaaBase
import Derived.OpenShut
namespace Go.Proofs.Ytahnjnmalahefaa
open Go.RowKit

/-! ### numbers -/
theorem next_any (a : Int) (w : World) : Calls Try.prog 13 #[.int .i64 a] w fun e w' => e = .returned (.int .i64 ((a + 1) % 256)) ∧ w = w' := by
  have h1 : (a % 256 + 1) % 256 = (a + 1) % 256 := by omega
  have h2 : 0 ≤ (a + 1) % 256 := by omega
  have h3 : (a + 1) % 256 ≤ 255 := by omega
  go_enter Try.func13, Try.ntmps13
  go_wp2
  go_ret
  exact ⟨rfl, rfl⟩
theorem gap_any (a b : Int) (w : World) : Calls Try.prog 12 #[.int .i64 a, .int .i64 b] w fun e w' => e = .returned (.int .i64 ((b - a) % 256)) ∧ w = w' := by
  have h1 : (b % 256 - a % 256) % 256 = (b - a) % 256 := by omega
  have h2 : 0 ≤ (b - a) % 256 := by omega
  have h3 : (b - a) % 256 ≤ 255 := by omega
  go_enter Try.func12, Try.ntmps12
  go_wp2
  go_ret
  exact ⟨rfl, rfl⟩
theorem rstep_any (a : Int) (w : World) (h0 : 0 ≤ a) (h1 : a ≤ 255) : Calls Try.prog 24 #[.int .i64 a] w fun e w' => e = .returned (.int .i64 ((a + 1) % 256)) ∧ w = w' := by
  by_cases h : a = 255
  · subst h
    go_enter Try.func24, Try.ntmps24
    go_wp2
    go_ret
    exact ⟨rfl, rfl⟩
  · have h2 : (a == 255) = false := by simpa using h
    have h3 : (a + 1) % 256 = a + 1 := by omega
    have h3 := Lib.hid h3
    clear h
    go_enter Try.func24, Try.ntmps24
    go_wp2
    go_ret
    rw [h3.out]
    exact ⟨rfl, rfl⟩
theorem tmod_neg (a : Int) (h : a < 0) : (a % 256 = 0 ∧ a.tmod 256 = 0) ∨ (a % 256 ≠ 0 ∧ a.tmod 256 = a % 256 - 256) := by
  have := Int.tmod_eq_emod (a := a) (b := 256)
  rw [this]
  by_cases hd : (256 : Int) ∣ a
  · left
    have : a % 256 = 0 := Int.emod_eq_zero_of_dvd hd
    exact ⟨this, by rw [if_pos (Or.inr hd)]; omega⟩
  · right
    have : a % 256 ≠ 0 := fun h => hd (Int.dvd_of_emod_eq_zero h)
    exact ⟨this, by rw [if_neg (by rintro (h1 | h1); omega; exact hd h1)]; omega⟩
theorem rround_any (a : Int) (w : World) (h0 : -9223372036854775808 ≤ a) (h1 : a ≤ 9223372036854775807) : Calls Try.prog 25 #[.int .i64 a] w fun e w' => e = .returned (.int .i64 (a % 256)) ∧ w = w' := by
  by_cases ha : 0 ≤ a
  · go_enter Try.func25, Try.ntmps25
    go_wp2
    go_ret
    exact ⟨rfl, rfl⟩
  · rcases tmod_neg a (by omega) with ⟨h2, h3⟩ | ⟨h2, h3⟩
    · go_enter Try.func25, Try.ntmps25
      go_wp2
      go_ret
      exact ⟨rfl, rfl⟩
    · go_enter Try.func25, Try.ntmps25
      go_wp2
      go_ret
      exact ⟨by first | rfl | (congr 2; omega), rfl⟩
theorem rnext_any (a : Int) (w : World) (h0 : -9223372036854775808 ≤ a) (h1 : a ≤ 9223372036854775807) : Calls Try.prog 14 #[.int .i64 a] w fun e w' => e = .returned (.int .i64 ((a + 1) % 256)) ∧ w = w' := by
  have hx : (a % 256 + 1) % 256 = (a + 1) % 256 := by omega
  have hs := Lib.hid (rstep_any (a % 256) w (by omega) (by omega))
  have hr := Lib.hid (rround_any a w h0 h1)
  go_enter Try.func14, Try.ntmps14
  go_wp2_with fail
  refine hr.out.mono ?_
  rintro e w' ⟨rfl, rfl⟩
  go_wp2_with fail
  refine hs.out.mono ?_
  rintro e w' ⟨rfl, rfl⟩
  go_wp2_with fail
  go_ret
  exact ⟨by rw [← hx]; rfl, rfl⟩
theorem rgap_any (a b : Int) (w : World) (h0 : -9223372036854775808 ≤ a) (h1 : a ≤ 9223372036854775807) (h2 : -9223372036854775808 ≤ b) (h3 : b ≤ 9223372036854775807) :
    Calls Try.prog 15 #[.int .i64 a, .int .i64 b] w fun e w' => e = .returned (.int .i64 ((b - a) % 256)) ∧ w = w' := by
  have hx : (b % 256 - a % 256) % 256 = (b - a) % 256 := by omega
  have hra := Lib.hid (rround_any a w h0 h1)
  have hrb := Lib.hid (rround_any b w h2 h3)
  have hrc := Lib.hid (rround_any (b % 256 - a % 256) w (by omega) (by omega))
  clear h0 h1 h2 h3
  go_enter Try.func15, Try.ntmps15
  go_wp2_with fail
  refine hrb.out.mono ?_
  rintro e w' ⟨rfl, rfl⟩
  go_wp2_with fail
  refine hra.out.mono ?_
  rintro e w' ⟨rfl, rfl⟩
  go_wp2_with fail
  refine hrc.out.mono ?_
  rintro e w' ⟨rfl, rfl⟩
  go_wp2_with fail
  go_ret
  exact ⟨by rw [← hx]; rfl, rfl⟩

/-! ### rows in memory -/
/-- A row of package seqs: the number that it wants, whether it has begun. -/
def RowAt (w : World) (b : Nat) (x : Int) (g : Bool) : Prop := w.heap[b]? = some (.cells #[.int .u8 x, .bool g, .bool true] 43 (0, 0)) ∧ 0 ≤ x ∧ x ≤ 255
/-- A row of the reference. -/
def RefAt (w : World) (b : Nat) (v : Int) : Prop := w.heap[b]? = some (.cells #[.int .i64 v] 38 (0, 0))
theorem RowAt.own {S : List Nat} {w w' : World} {b : Nat} {x : Int} {g : Bool} (h : RowAt w b x g) (ho : Own S w w') (hb : b ∉ S) : RowAt w' b x g := ⟨ho.heap h.1 hb, h.2⟩
theorem RefAt.own {S : List Nat} {w w' : World} {b : Nat} {v : Int} (h : RefAt w b v) (ho : Own S w w') (hb : b ∉ S) : RefAt w' b v := ho.heap h hb
theorem RowAt.set {w : World} {b : Nat} {x : Int} {g : Bool} (h : RowAt w b x g) (y : Int) (g' : Bool) (h0 : 0 ≤ y) (h1 : y ≤ 255) : RowAt ((w.setCell ⟨b, 0, none⟩ (.int .u8 y)).setCell ⟨b, 1, none⟩ (.bool g')) b y g' :=
  ⟨(heap_setCell_same _ _ _ _ _ _ (heap_setCell_same _ _ _ _ _ _ h.1)), h0, h1⟩
theorem RefAt.set {w : World} {b : Nat} {v : Int} (h : RefAt w b v) (y : Int) : RefAt (w.setCell ⟨b, 0, none⟩ (.int .i64 y)) b y := heap_setCell_same _ _ _ _ _ _ h

theorem none_yes (w : World) : Calls Try.prog 21 #[.pointer none] w fun e w' => e = .returned (.bool true) ∧ w = w' := by
  go_enter Try.func21, Try.ntmps21
  go_wp2
  go_ret
  exact ⟨rfl, rfl⟩
theorem none_any (b : Nat) (m : Bool) (w : World) (hm : w.cell? ⟨b, 2, none⟩ = some (.bool m)) :
    Calls Try.prog 21 #[.pointer (some ⟨b, 0, none⟩)] w fun e w' => e = .returned (.bool (!m)) ∧ w = w' := by
  go_enter Try.func21, Try.ntmps21
  go_wp2
  go_ret
  exact ⟨rfl, rfl⟩
theorem of_any (n : Int) (w : World) : Calls Try.prog 20 #[.int .i64 n] w fun e w' => e = .returned (.tuple #[.int .u8 (n % 256), .bool (decide (0 ≤ n ∧ n < 256))]) ∧ w = w' := by
  by_cases h0 : 0 ≤ n
  · by_cases h1 : n < 256
    · have hd : decide (0 ≤ n ∧ n < 256) = true := by simpa using ⟨h0, h1⟩
      rw [hd]
      clear hd
      go_enter Try.func20, Try.ntmps20
      go_wp2
      go_ret2
      exact ⟨by rw [show n % 256 = n by omega]; rfl, rfl⟩
    · have hd : decide (0 ≤ n ∧ n < 256) = false := by simp; omega
      rw [hd]
      clear hd
      go_enter Try.func20, Try.ntmps20
      go_wp2
      go_ret2
      exact ⟨rfl, rfl⟩
  · have hd : decide (0 ≤ n ∧ n < 256) = false := by simp; omega
    rw [hd]
    clear hd
    go_enter Try.func20, Try.ntmps20
    go_wp2
    go_ret2
    exact ⟨rfl, rfl⟩

/-- New. -/
theorem new_any (w : World) : Calls Try.prog 7 #[] w fun e w' => ∃ b, e = .returned (.pointer (some ⟨b, 0, none⟩)) ∧ RowAt w' b 0 false ∧ w.heap.size ≤ b ∧ Own [] w w' := by
  go_enter Try.func7, Try.ntmps7
  go_wp2
  go_ret
  exact ⟨w.heap.size, rfl, ⟨heap_alloc_new _ _, by omega, by omega⟩, Nat.le_refl _, (Own.refl _ _).alloc _⟩

/-- What Take and Begin come to: the code, the number wanted, whether it has begun. -/
def sTake (x : Int) (g : Bool) (n : Int) : Int × Int × Bool :=
  if 0 ≤ n ∧ n < 256 then (if g then (if n = x then (0, (n + 1) % 256, true) else (1, x, g)) else (7, x, g)) else (1, x, g)
def sBegin (x : Int) (g : Bool) (n : Int) : Int × Int × Bool :=
  if 0 ≤ n ∧ n < 256 then (0, (n + 1) % 256, true) else (1, x, g)
def RowPost (w : World) (b : Nat) (r : Int × Int × Bool) (e : Ending) (w' : World) : Prop :=
  e = .returned (.int .i64 r.1) ∧ RowAt w' b r.2.1 r.2.2 ∧ Own [b] w w'

theorem goOn_any (b : Nat) (x : Int) (g : Bool) (n : Int) (w : World) (h : RowAt w b x g) :
    Calls Try.prog 22 #[.pointer (some ⟨b, 0, none⟩), .func (.func 23) #[.int .u8 n] #[]] w fun e w' => e = .returned (.tuple #[]) ∧ RowAt w' b ((n + 1) % 256) true ∧ Own [b] w w' := by
  have c0 : w.cell? ⟨b, 0, none⟩ = some (.int .u8 x) := cell_of_row w b 0 _ _ _ h.1
  have c1 : w.cell? ⟨b, 1, none⟩ = some (.bool g) := cell_of_row w b 1 _ _ _ h.1
  have f0 : w.frozen? ⟨b, 0, none⟩ = false := frozen_of_row w b _ _ _ h.1
  have f1 : w.frozen? ⟨b, 1, none⟩ = false := frozen_of_row w b _ _ _ h.1
  have hP := Lib.hid (h.set ((n + 1) % 256) true (by omega) (by omega))
  clear h
  go_enter Try.func22, Try.ntmps22
  go_wp2
  go_end0
  exact ⟨rfl, hP.out, ((Own.refl _ _).setCell (by simp) _).setCell (by simp) _⟩

theorem take_any (b : Nat) (x : Int) (g : Bool) (n : Int) (w : World) (h : RowAt w b x g) : Calls Try.prog 8 #[.pointer (some ⟨b, 0, none⟩), .int .i64 n] w (RowPost w b (sTake x g n)) := by
  have c0 : w.cell? ⟨b, 0, none⟩ = some (.int .u8 x) := cell_of_row w b 0 _ _ _ h.1
  have c1 : w.cell? ⟨b, 1, none⟩ = some (.bool g) := cell_of_row w b 1 _ _ _ h.1
  have c2 : w.cell? ⟨b, 2, none⟩ = some (.bool true) := cell_of_row w b 2 _ _ _ h.1
  have hno := none_any b true w c2
  have hof := Lib.hid (of_any n w)
  have hno := Lib.hid hno
  have hP := Lib.hid h
  by_cases hn : 0 ≤ n ∧ n < 256
  · have hd : decide (0 ≤ n ∧ n < 256) = true := by simpa using hn
    have hm : n % 256 = n := by omega
    rw [hd, hm] at hof
    cases g
    · have hr : sTake x false n = (7, x, false) := by simp [sTake, hn]
      have hr := Lib.hid hr
      clear hd hm hn h
      go_enter Try.func8, Try.ntmps8
      go_wp2_with fail
      refine hof.out.mono ?_
      rintro e w' ⟨rfl, rfl⟩
      go_wp2_with fail
      refine hno.out.mono ?_
      rintro e w' ⟨rfl, rfl⟩
      go_wp2_with fail
      go_ret
      rw [hr.out]
      exact ⟨rfl, hP.out, Own.refl _ _⟩
    · by_cases hx : n = x
      · subst hx
        have hr : sTake n true n = (0, (n + 1) % 256, true) := by simp [sTake, hn]
        have hr := Lib.hid hr
        have hg := Lib.hid (goOn_any b n true n w h)
        clear hd hm hn h
        go_enter Try.func8, Try.ntmps8
        go_wp2_with fail
        refine hof.out.mono ?_
        rintro e w' ⟨rfl, rfl⟩
        go_wp2_with fail
        refine hno.out.mono ?_
        rintro e w' ⟨rfl, rfl⟩
        go_wp2_with fail
        refine hg.out.mono ?_
        rintro e w' ⟨rfl, hH, hO⟩
        go_wp2_with fail
        go_ret
        rw [hr.out]
        exact ⟨rfl, hH, hO⟩
      · have hr : sTake x true n = (1, x, true) := by simp [sTake, hn, hx]
        have hr := Lib.hid hr
        have hx' : (n != x) = true := by simpa using hx
        clear hd hm hn h hx
        go_enter Try.func8, Try.ntmps8
        go_wp2_with fail
        refine hof.out.mono ?_
        rintro e w' ⟨rfl, rfl⟩
        go_wp2_with fail
        refine hno.out.mono ?_
        rintro e w' ⟨rfl, rfl⟩
        go_wp2_with fail
        go_ret
        rw [hr.out]
        exact ⟨rfl, hP.out, Own.refl _ _⟩
  · have hd : decide (0 ≤ n ∧ n < 256) = false := by simpa using hn
    rw [hd] at hof
    have hr : sTake x g n = (1, x, g) := by simp only [sTake, if_neg hn]
    have hr := Lib.hid hr
    clear hd hn h
    go_enter Try.func8, Try.ntmps8
    go_wp2_with fail
    refine hof.out.mono ?_
    rintro e w' ⟨rfl, rfl⟩
    go_wp2_with fail
    refine hno.out.mono ?_
    rintro e w' ⟨rfl, rfl⟩
    go_wp2_with fail
    go_ret
    rw [hr.out]
    exact ⟨rfl, hP.out, Own.refl _ _⟩

theorem take_eq {b : Nat} {x : Int} {g : Bool} {n : Int} {r : Int × Int × Bool} (e : sTake x g n = r) (w : World) (h : RowAt w b x g) :
    Calls Try.prog 8 #[.pointer (some ⟨b, 0, none⟩), .int .i64 n] w (RowPost w b r) := e ▸ take_any b x g n w h
theorem begin_any (b : Nat) (x : Int) (g : Bool) (n : Int) (w : World) (h : RowAt w b x g) : Calls Try.prog 9 #[.pointer (some ⟨b, 0, none⟩), .int .i64 n] w (RowPost w b (sBegin x g n)) := by
  have c2 : w.cell? ⟨b, 2, none⟩ = some (.bool true) := cell_of_row w b 2 _ _ _ h.1
  have hno := none_any b true w c2
  have hof := Lib.hid (of_any n w)
  have hno := Lib.hid hno
  have hP := Lib.hid h
  by_cases hn : 0 ≤ n ∧ n < 256
  · have hd : decide (0 ≤ n ∧ n < 256) = true := by simpa using hn
    have hm : n % 256 = n := by omega
    rw [hd, hm] at hof
    have hr : sBegin x g n = (0, (n + 1) % 256, true) := by simp [sBegin, hn]
    have hr := Lib.hid hr
    have hg := Lib.hid (goOn_any b x g n w h)
    clear hd hm hn h
    go_enter Try.func9, Try.ntmps9
    go_wp2_with fail
    refine hof.out.mono ?_
    rintro e w' ⟨rfl, rfl⟩
    go_wp2_with fail
    refine hno.out.mono ?_
    rintro e w' ⟨rfl, rfl⟩
    go_wp2_with fail
    refine hg.out.mono ?_
    rintro e w' ⟨rfl, hH, hO⟩
    go_wp2_with fail
    go_ret
    rw [hr.out]
    exact ⟨rfl, hH, hO⟩
  · have hd : decide (0 ≤ n ∧ n < 256) = false := by simpa using hn
    rw [hd] at hof
    have hr : sBegin x g n = (1, x, g) := by simp only [sBegin, if_neg hn]
    have hr := Lib.hid hr
    clear hd hn h
    go_enter Try.func9, Try.ntmps9
    go_wp2_with fail
    refine hof.out.mono ?_
    rintro e w' ⟨rfl, rfl⟩
    go_wp2_with fail
    refine hno.out.mono ?_
    rintro e w' ⟨rfl, rfl⟩
    go_wp2_with fail
    go_ret
    rw [hr.out]
    exact ⟨rfl, hP.out, Own.refl _ _⟩

theorem begin_eq {b : Nat} {x : Int} {g : Bool} {n : Int} {r : Int × Int × Bool} (e : sBegin x g n = r) (w : World) (h : RowAt w b x g) :
    Calls Try.prog 9 #[.pointer (some ⟨b, 0, none⟩), .int .i64 n] w (RowPost w b r) := e ▸ begin_any b x g n w h
theorem want_any (b : Nat) (x : Int) (g : Bool) (w : World) (h : RowAt w b x g) :
    Calls Try.prog 10 #[.pointer (some ⟨b, 0, none⟩)] w fun e w' => e = .returned (.tuple #[.int .i64 (if g then x else 0), .bool g]) ∧ w = w' := by
  have c0 : w.cell? ⟨b, 0, none⟩ = some (.int .u8 x) := cell_of_row w b 0 _ _ _ h.1
  have c1 : w.cell? ⟨b, 1, none⟩ = some (.bool g) := cell_of_row w b 1 _ _ _ h.1
  have c2 : w.cell? ⟨b, 2, none⟩ = some (.bool true) := cell_of_row w b 2 _ _ _ h.1
  have hno := Lib.hid (none_any b true w c2)
  have h0 := h.2.1
  have h1 := h.2.2
  clear h
  cases g
  all_goals
    go_enter Try.func10, Try.ntmps10
    go_wp2_with fail
    refine hno.out.mono ?_
    rintro e w' ⟨rfl, rfl⟩
    go_wp2_with fail
    go_ret2
    exact ⟨rfl, rfl⟩

theorem fits_any (b : Nat) (x : Int) (g : Bool) (n : Int) (w : World) (h : RowAt w b x g) :
    Calls Try.prog 19 #[.pointer (some ⟨b, 0, none⟩), .int .i64 n] w fun e w' => e = .returned (.bool (g && n == x)) ∧ w = w' := by
  have c0 : w.cell? ⟨b, 0, none⟩ = some (.int .u8 x) := cell_of_row w b 0 _ _ _ h.1
  have c1 : w.cell? ⟨b, 1, none⟩ = some (.bool g) := cell_of_row w b 1 _ _ _ h.1
  have c2 : w.cell? ⟨b, 2, none⟩ = some (.bool true) := cell_of_row w b 2 _ _ _ h.1
  have hno := Lib.hid (none_any b true w c2)
  have hof := Lib.hid (of_any n w)
  have h0 := h.2.1
  have h1 := h.2.2
  clear h
  by_cases hn : 0 ≤ n ∧ n < 256
  · have hd : decide (0 ≤ n ∧ n < 256) = true := by simpa using hn
    have hm : n % 256 = n := by omega
    rw [hd, hm] at hof
    clear hd hm hn
    cases g
    all_goals
      go_enter Try.func19, Try.ntmps19
      go_wp2_with fail
      refine hof.out.mono ?_
      rintro e w' ⟨rfl, rfl⟩
      go_wp2_with fail
      refine hno.out.mono ?_
      rintro e w' ⟨rfl, rfl⟩
      go_wp2_with fail
      go_ret
      exact ⟨by simp, rfl⟩
  · have hd : decide (0 ≤ n ∧ n < 256) = false := by simpa using hn
    have hr : (g && n == x) = false := by
      have : (n == x) = false := by simp; omega
      simp [this]
    have hr := Lib.hid hr
    rw [hd] at hof
    clear hd hn
    go_enter Try.func19, Try.ntmps19
    go_wp2_with fail
    refine hof.out.mono ?_
    rintro e w' ⟨rfl, rfl⟩
    go_wp2_with fail
    refine hno.out.mono ?_
    rintro e w' ⟨rfl, rfl⟩
    go_wp2_with fail
    go_ret
    exact ⟨by rw [hr.out]; rfl, rfl⟩

theorem end_any (b : Nat) (x : Int) (g : Bool) (w : World) (h : RowAt w b x g) :
    Calls Try.prog 17 #[.pointer (some ⟨b, 0, none⟩)] w fun e w' => e = .returned (.bool g) ∧ RowAt w' b 0 false ∧ Own [b] w w' := by
  have c0 : w.cell? ⟨b, 0, none⟩ = some (.int .u8 x) := cell_of_row w b 0 _ _ _ h.1
  have c1 : w.cell? ⟨b, 1, none⟩ = some (.bool g) := cell_of_row w b 1 _ _ _ h.1
  have c2 : w.cell? ⟨b, 2, none⟩ = some (.bool true) := cell_of_row w b 2 _ _ _ h.1
  have f0 : w.frozen? ⟨b, 0, none⟩ = false := frozen_of_row w b _ _ _ h.1
  have f1 : w.frozen? ⟨b, 1, none⟩ = false := frozen_of_row w b _ _ _ h.1
  have hno := Lib.hid (none_any b true w c2)
  have hP := Lib.hid (h.set 0 false (by omega) (by omega))
  clear h
  go_enter Try.func17, Try.ntmps17
  go_wp2_with fail
  refine hno.out.mono ?_
  rintro e w' ⟨rfl, rfl⟩
  go_wp2_with fail
  go_ret
  exact ⟨rfl, hP.out, ((Own.refl _ _).setCell (by simp) _).setCell (by simp) _⟩
end Go.Proofs.Ytahnjnmalahefaa
