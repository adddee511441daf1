/- The reference's row of numbers. -/
import Derived.Test.YtahnjnmalahefaaSeqs
namespace Go.Proofs.Ytahnjnmalahefaa
open Go.RowKit
def vOf (x : Int) (g : Bool) : Int := if g then x else -1
def RefPost (w : World) (c : Nat) (r : Int × Int × Bool) (e : Ending) (w' : World) : Prop :=
  e = .returned (.int .i64 r.1) ∧ RefAt w' c (vOf r.2.1 r.2.2) ∧ Own [c] w w'
theorem rbegin_any (c : Nat) (x : Int) (g : Bool) (n : Int) (w : World) (h : RefAt w c (vOf x g)) (_hn0 : -9223372036854775808 ≤ n) (_hn1 : n ≤ 9223372036854775807) :
    Calls Try.prog 16 #[.pointer (some ⟨c, 0, none⟩), .int .i64 n] w (RefPost w c (sBegin x g n)) := by
  have c0 : w.cell? ⟨c, 0, none⟩ = some (.int .i64 (vOf x g)) := cell_of_row w c 0 _ _ _ h
  have f0 : w.frozen? ⟨c, 0, none⟩ = false := frozen_of_row w c _ _ _ h
  have hP := Lib.hid h
  by_cases hn : 0 ≤ n ∧ n < 256
  · have hr : sBegin x g n = (0, (n + 1) % 256, true) := by simp [sBegin, hn]
    replace hr := Lib.hid hr
    obtain ⟨h0, h1⟩ := hn
    have hs := Lib.hid (rstep_any n w h0 (by omega))
    clear h
    go_enter Try.func16, Try.ntmps16
    go_wp2_with fail
    refine hs.out.mono ?_
    rintro e w' ⟨rfl, rfl⟩
    go_wp2_with fail
    go_ret
    rw [hr.out]
    exact ⟨rfl, hP.out.set _, (Own.refl _ _).setCell (by simp) _⟩
  · have hr : sBegin x g n = (1, x, g) := by simp only [sBegin, if_neg hn]
    replace hr := Lib.hid hr
    by_cases h0 : n < 0
    · clear h hn
      go_enter Try.func16, Try.ntmps16
      go_wp2_with fail
      go_ret
      rw [hr.out]
      exact ⟨rfl, hP.out, Own.refl _ _⟩
    · have h1 : 255 < n := by omega
      clear h hn
      go_enter Try.func16, Try.ntmps16
      go_wp2_with fail
      go_ret
      rw [hr.out]
      exact ⟨rfl, hP.out, Own.refl _ _⟩
theorem rtake_any (c : Nat) (x : Int) (g : Bool) (n : Int) (w : World) (h : RefAt w c (vOf x g)) (hx0 : 0 ≤ x) (_hn0 : -9223372036854775808 ≤ n) (_hn1 : n ≤ 9223372036854775807) :
    Calls Try.prog 18 #[.pointer (some ⟨c, 0, none⟩), .int .i64 n] w (RefPost w c (sTake x g n)) := by
  have c0 : w.cell? ⟨c, 0, none⟩ = some (.int .i64 (vOf x g)) := cell_of_row w c 0 _ _ _ h
  have f0 : w.frozen? ⟨c, 0, none⟩ = false := frozen_of_row w c _ _ _ h
  have hP := Lib.hid h
  by_cases hn : 0 ≤ n ∧ n < 256
  · cases g
    · have hr : sTake x false n = (7, x, false) := by simp [sTake, hn]
      replace hr := Lib.hid hr
      replace c0 : w.cell? ⟨c, 0, none⟩ = some (.int .i64 (-1)) := c0
      obtain ⟨h0, h1⟩ := hn
      clear h
      go_enter Try.func18, Try.ntmps18
      go_wp2_with fail
      go_ret
      rw [hr.out]
      exact ⟨rfl, hP.out, Own.refl _ _⟩
    · replace c0 : w.cell? ⟨c, 0, none⟩ = some (.int .i64 x) := c0
      by_cases hx : n = x
      · subst hx
        have hr : sTake n true n = (0, (n + 1) % 256, true) := by simp [sTake, hn]
        replace hr := Lib.hid hr
        obtain ⟨h0, h1⟩ := hn
        have hs := Lib.hid (rstep_any n w h0 (by omega))
        clear h
        go_enter Try.func18, Try.ntmps18
        go_wp2_with fail
        refine hs.out.mono ?_
        rintro e w' ⟨rfl, rfl⟩
        go_wp2_with fail
        go_ret
        rw [hr.out]
        exact ⟨rfl, hP.out.set _, (Own.refl _ _).setCell (by simp) _⟩
      · have hr : sTake x true n = (1, x, true) := by simp [sTake, hn, hx]
        replace hr := Lib.hid hr
        have hx' : (n != x) = true := by simpa using hx
        obtain ⟨h0, h1⟩ := hn
        clear h hx
        go_enter Try.func18, Try.ntmps18
        go_wp2_with fail
        go_ret
        rw [hr.out]
        exact ⟨rfl, hP.out, Own.refl _ _⟩
  · have hr : sTake x g n = (1, x, g) := by simp only [sTake, if_neg hn]
    replace hr := Lib.hid hr
    by_cases h0 : n < 0
    · clear h hn
      go_enter Try.func18, Try.ntmps18
      go_wp2_with fail
      go_ret
      rw [hr.out]
      exact ⟨rfl, hP.out, Own.refl _ _⟩
    · have h1 : 255 < n := by omega
      clear h hn
      go_enter Try.func18, Try.ntmps18
      go_wp2_with fail
      go_ret
      rw [hr.out]
      exact ⟨rfl, hP.out, Own.refl _ _⟩
theorem sTake_bd {x : Int} {g : Bool} (h0 : 0 ≤ x) (h1 : x ≤ 255) (n : Int) : 0 ≤ (sTake x g n).2.1 ∧ (sTake x g n).2.1 ≤ 255 := by
  unfold sTake; (repeat' split) <;> simp <;> omega
end Go.Proofs.Ytahnjnmalahefaa
