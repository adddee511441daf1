/- Package seqs and its reference: what each call does. -/
import Derived.Test.YtjfmbjgniajagaaGreatDoorRows
import Derived.Test.YtjfmbjgniajagaaGreatDoorBase
import Derived.OpenShut
namespace Go.Proofs.YtjfmbjgniajagaaGreatDoor.Sq
open Go.Proofs.YtjfmbjgniajagaaGreatDoor
open Go.RowKit

/-! ### numbers -/
theorem tmod_neg (a : Int) (h : a < 0) : (a % 256 = 0 ∧ a.tmod 256 = 0) ∨ (a % 256 ≠ 0 ∧ a.tmod 256 = a % 256 - 256) := by
  have := Int.tmod_eq_emod (a := a) (b := 256)
  rw [this]
  by_cases hd : (256 : Int) ∣ a
  · left
    have : a % 256 = 0 := Int.emod_eq_zero_of_dvd hd
    exact ⟨this, by rw [if_pos (Or.inr hd)]; omega⟩
  · right
    have : a % 256 ≠ 0 := fun h => hd (Int.dvd_of_emod_eq_zero h)
    exact ⟨this, by rw [if_neg (by rintro (h1 | h1); omega; exact hd h1)]; omega⟩
/-! ### rows in memory -/
/-- A row of package seqs: the number that it wants, whether it has begun. -/
def RowAt (w : World) (b : Nat) (x : Int) (g : Bool) : Prop := w.heap[b]? = some (.cells #[.int .u8 x, .bool g, .bool true] 94 (0, 0)) ∧ 0 ≤ x ∧ x ≤ 255
theorem RowAt.own {S : List Nat} {w w' : World} {b : Nat} {x : Int} {g : Bool} (h : RowAt w b x g) (ho : Own S w w') (hb : b ∉ S) : RowAt w' b x g := ⟨ho.heap h.1 hb, h.2⟩
theorem RowAt.set {w : World} {b : Nat} {x : Int} {g : Bool} (h : RowAt w b x g) (y : Int) (g' : Bool) (h0 : 0 ≤ y) (h1 : y ≤ 255) : RowAt ((w.setCell ⟨b, 0, none⟩ (.int .u8 y)).setCell ⟨b, 1, none⟩ (.bool g')) b y g' :=
  ⟨(heap_setCell_same _ _ _ _ _ _ (heap_setCell_same _ _ _ _ _ _ h.1)), h0, h1⟩
theorem none_yes (w : World) : Calls Tryz.prog 40 #[.pointer none] w fun e w' => e = .returned (.bool true) ∧ w = w' := by
  go_enter Tryz.func40, Tryz.ntmps40
  go_wp2
  go_ret
  exact ⟨rfl, rfl⟩
theorem none_any (b : Nat) (m : Bool) (w : World) (hm : w.cell? ⟨b, 2, none⟩ = some (.bool m)) :
    Calls Tryz.prog 40 #[.pointer (some ⟨b, 0, none⟩)] w fun e w' => e = .returned (.bool (!m)) ∧ w = w' := by
  go_enter Tryz.func40, Tryz.ntmps40
  go_wp2
  go_ret
  exact ⟨rfl, rfl⟩
theorem of_any (n : Int) (w : World) : Calls Tryz.prog 85 #[.int .i64 n] w fun e w' => e = .returned (.tuple #[.int .u8 (n % 256), .bool (decide (0 ≤ n ∧ n < 256))]) ∧ w = w' := by
  by_cases h0 : 0 ≤ n
  · by_cases h1 : n < 256
    · have hd : decide (0 ≤ n ∧ n < 256) = true := by simpa using ⟨h0, h1⟩
      rw [hd]
      clear hd
      go_enter Tryz.func85, Tryz.ntmps85
      go_wp2
      go_ret2
      exact ⟨by rw [show n % 256 = n by omega]; rfl, rfl⟩
    · have hd : decide (0 ≤ n ∧ n < 256) = false := by simp; omega
      rw [hd]
      clear hd
      go_enter Tryz.func85, Tryz.ntmps85
      go_wp2
      go_ret2
      exact ⟨rfl, rfl⟩
  · have hd : decide (0 ≤ n ∧ n < 256) = false := by simp; omega
    rw [hd]
    clear hd
    go_enter Tryz.func85, Tryz.ntmps85
    go_wp2
    go_ret2
    exact ⟨rfl, rfl⟩

/-- New. -/
theorem new_any (w : World) : Calls Tryz.prog 22 #[] w fun e w' => ∃ b, e = .returned (.pointer (some ⟨b, 0, none⟩)) ∧ RowAt w' b 0 false ∧ w.heap.size ≤ b ∧ Own [] w w' := by
  go_enter Tryz.func22, Tryz.ntmps22
  go_wp2
  go_ret
  exact ⟨w.heap.size, rfl, ⟨heap_alloc_new _ _, by omega, by omega⟩, Nat.le_refl _, (Own.refl _ _).alloc _⟩

/-- What Take and Begin come to: the code, the number wanted, whether it has begun. -/
def sTake (x : Int) (g : Bool) (n : Int) : Int × Int × Bool :=
  if 0 ≤ n ∧ n < 256 then (if g then (if n = x then (0, (n + 1) % 256, true) else (1, x, g)) else (7, x, g)) else (1, x, g)
def sBegin (x : Int) (g : Bool) (n : Int) : Int × Int × Bool :=
  if 0 ≤ n ∧ n < 256 then (0, (n + 1) % 256, true) else (1, x, g)
def RowPost (w : World) (b : Nat) (r : Int × Int × Bool) (e : Ending) (w' : World) : Prop :=
  e = .returned (.int .i64 r.1) ∧ RowAt w' b r.2.1 r.2.2 ∧ Own [b] w w'

theorem goOn_any (b : Nat) (x : Int) (g : Bool) (n : Int) (w : World) (h : RowAt w b x g) :
    Calls Tryz.prog 86 #[.pointer (some ⟨b, 0, none⟩), .func (.func 87) #[.int .u8 n] #[]] w fun e w' => e = .returned (.tuple #[]) ∧ RowAt w' b ((n + 1) % 256) true ∧ Own [b] w w' := by
  have c0 : w.cell? ⟨b, 0, none⟩ = some (.int .u8 x) := cell_of_row w b 0 _ _ _ h.1
  have c1 : w.cell? ⟨b, 1, none⟩ = some (.bool g) := cell_of_row w b 1 _ _ _ h.1
  have f0 : w.frozen? ⟨b, 0, none⟩ = false := frozen_of_row w b _ _ _ h.1
  have f1 : w.frozen? ⟨b, 1, none⟩ = false := frozen_of_row w b _ _ _ h.1
  have hP := Lib.hid (h.set ((n + 1) % 256) true (by omega) (by omega))
  clear h
  go_enter Tryz.func86, Tryz.ntmps86
  go_wp2
  go_end0
  exact ⟨rfl, hP.out, ((Own.refl _ _).setCell (by simp) _).setCell (by simp) _⟩

theorem take_any (b : Nat) (x : Int) (g : Bool) (n : Int) (w : World) (h : RowAt w b x g) : Calls Tryz.prog 91 #[.pointer (some ⟨b, 0, none⟩), .int .i64 n] w (RowPost w b (sTake x g n)) := by
  have c0 : w.cell? ⟨b, 0, none⟩ = some (.int .u8 x) := cell_of_row w b 0 _ _ _ h.1
  have c1 : w.cell? ⟨b, 1, none⟩ = some (.bool g) := cell_of_row w b 1 _ _ _ h.1
  have c2 : w.cell? ⟨b, 2, none⟩ = some (.bool true) := cell_of_row w b 2 _ _ _ h.1
  have hno := none_any b true w c2
  have hof := Lib.hid (of_any n w)
  replace hno := Lib.hid hno
  have hP := Lib.hid h
  by_cases hn : 0 ≤ n ∧ n < 256
  · have hd : decide (0 ≤ n ∧ n < 256) = true := by simpa using hn
    have hm : n % 256 = n := by omega
    rw [hd, hm] at hof
    cases g
    · have hr : sTake x false n = (7, x, false) := by simp [sTake, hn]
      replace hr := Lib.hid hr
      clear hd hm hn h
      go_enter Tryz.func91, Tryz.ntmps91
      go_wp2_with fail
      refine hof.out.mono ?_
      rintro e w' ⟨rfl, rfl⟩
      go_wp2_with fail
      refine hno.out.mono ?_
      rintro e w' ⟨rfl, rfl⟩
      go_wp2_with fail
      go_ret
      rw [hr.out]
      exact ⟨rfl, hP.out, Own.refl _ _⟩
    · by_cases hx : n = x
      · subst hx
        have hr : sTake n true n = (0, (n + 1) % 256, true) := by simp [sTake, hn]
        replace hr := Lib.hid hr
        have hg := Lib.hid (goOn_any b n true n w h)
        clear hd hm hn h
        go_enter Tryz.func91, Tryz.ntmps91
        go_wp2_with fail
        refine hof.out.mono ?_
        rintro e w' ⟨rfl, rfl⟩
        go_wp2_with fail
        refine hno.out.mono ?_
        rintro e w' ⟨rfl, rfl⟩
        go_wp2_with fail
        refine hg.out.mono ?_
        rintro e w' ⟨rfl, hH, hO⟩
        go_wp2_with fail
        go_ret
        rw [hr.out]
        exact ⟨rfl, hH, hO⟩
      · have hr : sTake x true n = (1, x, true) := by simp [sTake, hn, hx]
        replace hr := Lib.hid hr
        have hx' : (n != x) = true := by simpa using hx
        clear hd hm hn h hx
        go_enter Tryz.func91, Tryz.ntmps91
        go_wp2_with fail
        refine hof.out.mono ?_
        rintro e w' ⟨rfl, rfl⟩
        go_wp2_with fail
        refine hno.out.mono ?_
        rintro e w' ⟨rfl, rfl⟩
        go_wp2_with fail
        go_ret
        rw [hr.out]
        exact ⟨rfl, hP.out, Own.refl _ _⟩
  · have hd : decide (0 ≤ n ∧ n < 256) = false := by simpa using hn
    rw [hd] at hof
    have hr : sTake x g n = (1, x, g) := by simp only [sTake, if_neg hn]
    replace hr := Lib.hid hr
    clear hd hn h
    go_enter Tryz.func91, Tryz.ntmps91
    go_wp2_with fail
    refine hof.out.mono ?_
    rintro e w' ⟨rfl, rfl⟩
    go_wp2_with fail
    refine hno.out.mono ?_
    rintro e w' ⟨rfl, rfl⟩
    go_wp2_with fail
    go_ret
    rw [hr.out]
    exact ⟨rfl, hP.out, Own.refl _ _⟩

theorem take_eq {b : Nat} {x : Int} {g : Bool} {n : Int} {r : Int × Int × Bool} (e : sTake x g n = r) (w : World) (h : RowAt w b x g) :
    Calls Tryz.prog 91 #[.pointer (some ⟨b, 0, none⟩), .int .i64 n] w (RowPost w b r) := e ▸ take_any b x g n w h
theorem begin_any (b : Nat) (x : Int) (g : Bool) (n : Int) (w : World) (h : RowAt w b x g) : Calls Tryz.prog 53 #[.pointer (some ⟨b, 0, none⟩), .int .i64 n] w (RowPost w b (sBegin x g n)) := by
  have c2 : w.cell? ⟨b, 2, none⟩ = some (.bool true) := cell_of_row w b 2 _ _ _ h.1
  have hno := none_any b true w c2
  have hof := Lib.hid (of_any n w)
  replace hno := Lib.hid hno
  have hP := Lib.hid h
  by_cases hn : 0 ≤ n ∧ n < 256
  · have hd : decide (0 ≤ n ∧ n < 256) = true := by simpa using hn
    have hm : n % 256 = n := by omega
    rw [hd, hm] at hof
    have hr : sBegin x g n = (0, (n + 1) % 256, true) := by simp [sBegin, hn]
    replace hr := Lib.hid hr
    have hg := Lib.hid (goOn_any b x g n w h)
    clear hd hm hn h
    go_enter Tryz.func53, Tryz.ntmps53
    go_wp2_with fail
    refine hof.out.mono ?_
    rintro e w' ⟨rfl, rfl⟩
    go_wp2_with fail
    refine hno.out.mono ?_
    rintro e w' ⟨rfl, rfl⟩
    go_wp2_with fail
    refine hg.out.mono ?_
    rintro e w' ⟨rfl, hH, hO⟩
    go_wp2_with fail
    go_ret
    rw [hr.out]
    exact ⟨rfl, hH, hO⟩
  · have hd : decide (0 ≤ n ∧ n < 256) = false := by simpa using hn
    rw [hd] at hof
    have hr : sBegin x g n = (1, x, g) := by simp only [sBegin, if_neg hn]
    replace hr := Lib.hid hr
    clear hd hn h
    go_enter Tryz.func53, Tryz.ntmps53
    go_wp2_with fail
    refine hof.out.mono ?_
    rintro e w' ⟨rfl, rfl⟩
    go_wp2_with fail
    refine hno.out.mono ?_
    rintro e w' ⟨rfl, rfl⟩
    go_wp2_with fail
    go_ret
    rw [hr.out]
    exact ⟨rfl, hP.out, Own.refl _ _⟩

theorem begin_eq {b : Nat} {x : Int} {g : Bool} {n : Int} {r : Int × Int × Bool} (e : sBegin x g n = r) (w : World) (h : RowAt w b x g) :
    Calls Tryz.prog 53 #[.pointer (some ⟨b, 0, none⟩), .int .i64 n] w (RowPost w b r) := e ▸ begin_any b x g n w h
theorem want_any (b : Nat) (x : Int) (g : Bool) (w : World) (h : RowAt w b x g) :
    Calls Tryz.prog 27 #[.pointer (some ⟨b, 0, none⟩)] w fun e w' => e = .returned (.tuple #[.int .i64 (if g then x else 0), .bool g]) ∧ w = w' := by
  have c0 : w.cell? ⟨b, 0, none⟩ = some (.int .u8 x) := cell_of_row w b 0 _ _ _ h.1
  have c1 : w.cell? ⟨b, 1, none⟩ = some (.bool g) := cell_of_row w b 1 _ _ _ h.1
  have c2 : w.cell? ⟨b, 2, none⟩ = some (.bool true) := cell_of_row w b 2 _ _ _ h.1
  have hno := Lib.hid (none_any b true w c2)
  have h0 := h.2.1
  have h1 := h.2.2
  clear h
  cases g
  all_goals
    go_enter Tryz.func27, Tryz.ntmps27
    go_wp2_with fail
    refine hno.out.mono ?_
    rintro e w' ⟨rfl, rfl⟩
    go_wp2_with fail
    go_ret2
    exact ⟨rfl, rfl⟩

theorem fits_any (b : Nat) (x : Int) (g : Bool) (n : Int) (w : World) (h : RowAt w b x g) :
    Calls Tryz.prog 89 #[.pointer (some ⟨b, 0, none⟩), .int .i64 n] w fun e w' => e = .returned (.bool (g && n == x)) ∧ w = w' := by
  have c0 : w.cell? ⟨b, 0, none⟩ = some (.int .u8 x) := cell_of_row w b 0 _ _ _ h.1
  have c1 : w.cell? ⟨b, 1, none⟩ = some (.bool g) := cell_of_row w b 1 _ _ _ h.1
  have c2 : w.cell? ⟨b, 2, none⟩ = some (.bool true) := cell_of_row w b 2 _ _ _ h.1
  have hno := Lib.hid (none_any b true w c2)
  have hof := Lib.hid (of_any n w)
  have h0 := h.2.1
  have h1 := h.2.2
  clear h
  by_cases hn : 0 ≤ n ∧ n < 256
  · have hd : decide (0 ≤ n ∧ n < 256) = true := by simpa using hn
    have hm : n % 256 = n := by omega
    rw [hd, hm] at hof
    clear hd hm hn
    cases g
    all_goals
      go_enter Tryz.func89, Tryz.ntmps89
      go_wp2_with fail
      refine hof.out.mono ?_
      rintro e w' ⟨rfl, rfl⟩
      go_wp2_with fail
      refine hno.out.mono ?_
      rintro e w' ⟨rfl, rfl⟩
      go_wp2_with fail
      go_ret
      exact ⟨by simp, rfl⟩
  · have hd : decide (0 ≤ n ∧ n < 256) = false := by simpa using hn
    have hr : (g && n == x) = false := by
      have : (n == x) = false := by simp; omega
      simp [this]
    replace hr := Lib.hid hr
    rw [hd] at hof
    clear hd hn
    go_enter Tryz.func89, Tryz.ntmps89
    go_wp2_with fail
    refine hof.out.mono ?_
    rintro e w' ⟨rfl, rfl⟩
    go_wp2_with fail
    refine hno.out.mono ?_
    rintro e w' ⟨rfl, rfl⟩
    go_wp2_with fail
    go_ret
    exact ⟨by rw [hr.out]; rfl, rfl⟩

theorem end_any (b : Nat) (x : Int) (g : Bool) (w : World) (h : RowAt w b x g) :
    Calls Tryz.prog 54 #[.pointer (some ⟨b, 0, none⟩)] w fun e w' => e = .returned (.bool g) ∧ RowAt w' b 0 false ∧ Own [b] w w' := by
  have c0 : w.cell? ⟨b, 0, none⟩ = some (.int .u8 x) := cell_of_row w b 0 _ _ _ h.1
  have c1 : w.cell? ⟨b, 1, none⟩ = some (.bool g) := cell_of_row w b 1 _ _ _ h.1
  have c2 : w.cell? ⟨b, 2, none⟩ = some (.bool true) := cell_of_row w b 2 _ _ _ h.1
  have f0 : w.frozen? ⟨b, 0, none⟩ = false := frozen_of_row w b _ _ _ h.1
  have f1 : w.frozen? ⟨b, 1, none⟩ = false := frozen_of_row w b _ _ _ h.1
  have hno := Lib.hid (none_any b true w c2)
  have hP := Lib.hid (h.set 0 false (by omega) (by omega))
  clear h
  go_enter Tryz.func54, Tryz.ntmps54
  go_wp2_with fail
  refine hno.out.mono ?_
  rintro e w' ⟨rfl, rfl⟩
  go_wp2_with fail
  go_ret
  exact ⟨rfl, hP.out, ((Own.refl _ _).setCell (by simp) _).setCell (by simp) _⟩
end Go.Proofs.YtjfmbjgniajagaaGreatDoor.Sq
