/- The law's own little run. -/
import Derived.Test.YtahnjnmalahefaaSeqs
namespace Go.Proofs.Ytahnjnmalahefaa
open Go.RowKit
theorem awake_any (w : World) : Calls Try.prog 11 #[] w fun e w' => e = .returned (.bool true) ∧ Own [] w w' := by
  go_enter Try.func11, Try.ntmps11
  go_wp2_with fail
  refine (new_any _).mono ?_
  rintro e w1 ⟨b, rfl, hH, hb, hO⟩
  have T1 := Lib.hid (begin_eq (r := (0, 255, true)) (n := 254) (by decide) _ hH)
  go_wp2_with fail
  refine T1.out.mono ?_
  rintro e w2 ⟨rfl, hH2, hO2⟩
  have T2 := Lib.hid (want_any _ _ _ _ hH2)
  have T3 := Lib.hid (take_eq (r := (0, 0, true)) (n := 255) (by decide) _ hH2)
  clear hH
  go_wp2_with fail
  refine T2.out.mono ?_
  rintro e w3 ⟨rfl, rfl⟩
  clear hH2
  go_wp2_with fail
  refine T3.out.mono ?_
  rintro e w3 ⟨rfl, hH3, hO3⟩
  have T4 := Lib.hid (fits_any _ _ _ 0 _ hH3)
  clear hH3
  go_wp2_with fail
  refine T4.out.mono ?_
  rintro e w4 ⟨rfl, rfl⟩
  go_wp2_with fail
  refine (gap_any _ _ _).mono ?_
  rintro e w4 ⟨rfl, rfl⟩
  go_wp2_with fail
  go_ret
  exact ⟨rfl, hO.trans' (hO2.trans hO3) (by simp; omega)⟩
end Go.Proofs.Ytahnjnmalahefaa
