/- What a broker tells of which nobody made anything: nil, zero, just made. -/
import Derived.Test.YtacbahmmmndmbaaGreatDoorBkNew
import Derived.Test.YtacbahmmmndmbaaGreatDoorSpNone
import Derived.WalkMore
set_option linter.unusedSimpArgs false
set_option linter.unusedVariables false
namespace Go.Proofs.YtacbahmmmndmbaaGreatDoor
open Go.RowKit

theorem bnone_nil (W : World) : Calls Tryz.prog 25 #[.pointer none] W fun e w' => e = .returned (.bool true) ∧ W = w' := by
  go_enter Tryz.func25, Tryz.ntmps25
  go_wp2_with fail
  go_ret
  exact ⟨rfl, rfl⟩
theorem bnone_zero (p : Nat) (W : World) (h : W.cell? ⟨p, 25, none⟩ = some (.pointer none)) : Calls Tryz.prog 25 #[Ptr p] W fun e w' => e = .returned (.bool true) ∧ W = w' := by
  go_enter Tryz.func25, Tryz.ntmps25
  go_wp2_with fail
  go_ret
  exact ⟨rfl, rfl⟩
theorem bnone_no (p se : Nat) (W : World) (h : W.cell? ⟨p, 25, none⟩ = some (Ptr se)) : Calls Tryz.prog 25 #[Ptr p] W fun e w' => e = .returned (.bool false) ∧ W = w' := by
  go_enter Tryz.func25, Tryz.ntmps25
  go_wp2_with fail
  go_ret
  exact ⟨rfl, rfl⟩
/-- A broker of which nobody made anything: nil, or zero. -/
def BZ (v : Value) (W : World) : Prop := v = .pointer none ∨ ∃ p, v = Ptr p ∧ W.cell? ⟨p, 25, none⟩ = some (.pointer none)
theorem BZ.nil (W : World) : BZ (.pointer none) W := .inl rfl
theorem BZ.own {v : Value} {W W' : World} (h : BZ v W) (ho : Own [] W W') : BZ v W' := by
  rcases h with rfl | ⟨p, rfl, h⟩
  · exact .inl rfl
  · exact .inr ⟨p, rfl, (ho.cell (block_lt_of_cell h) (by simp)).trans h⟩
theorem bnone_bz {v : Value} (W : World) (h : BZ v W) : Calls Tryz.prog 25 #[v] W fun e w' => e = .returned (.bool true) ∧ W = w' := by
  rcases h with rfl | ⟨p, rfl, h⟩
  · exact bnone_nil W
  · exact bnone_zero p W h
theorem bspark_bz {v : Value} (W : World) (h : BZ v W) : Calls Tryz.prog 16 #[v] W fun e w' => e = .returned (.pointer none) ∧ W = w' := by
  have c := Lib.hid (bnone_bz W h)
  clear h
  go_enter Tryz.func16, Tryz.ntmps16
  go_wp2_with (go_at_call 25; (with_reducible refine c.out.mono ?_); rintro e w2 ⟨rfl, rfl⟩)
  go_ret
  exact ⟨rfl, rfl⟩
theorem anone_bz {v : Value} (W : World) (h : BZ v W) : Calls Tryz.prog 40 #[v] W fun e w' => e = .returned (.bool true) ∧ W = w' := by
  have c := Lib.hid (bspark_bz W h)
  clear h
  go_enter Tryz.func40, Tryz.ntmps40
  go_wp2_with (go_at_call 16; (with_reducible refine c.out.mono ?_); rintro e w2 ⟨rfl, rfl⟩)
  go_ret
  exact ⟨rfl, rfl⟩
theorem caps_bz {v : Value} (W : World) (h : BZ v W) : Calls Tryz.prog 18 #[v] W fun e w' => e = .returned (.int .i64 8) ∧ Own [] W w' := by
  have c := Lib.hid (fun W (h : BZ v W) => anone_bz W h)
  have h := Lib.hid h
  go_enter Tryz.func18, Tryz.ntmps18
  go_wp2_with (go_at_call 40; (with_reducible refine (c.out _ h.out).mono ?_); rintro e w2 ⟨rfl, rfl⟩)
  go_ret
  exact ⟨rfl, Own.refl _ _⟩
theorem wires_bz {v : Value} (W : World) (h : BZ v W) : Calls Tryz.prog 19 #[v] W fun e w' => e = .returned (.int .i64 8) ∧ Own [] W w' := by
  have c := Lib.hid (fun W (h : BZ v W) => anone_bz W h)
  have h := Lib.hid h
  go_enter Tryz.func19, Tryz.ntmps19
  go_wp2_with (go_at_call 40; (with_reducible refine (c.out _ h.out).mono ?_); rintro e w2 ⟨rfl, rfl⟩)
  go_ret
  exact ⟨rfl, Own.refl _ _⟩
theorem folds_bz {v : Value} (W : World) (h : BZ v W) : Calls Tryz.prog 20 #[v] W fun e w' => e = .returned (.int .i64 8) ∧ Own [] W w' := by
  have c := Lib.hid (fun W (h : BZ v W) => anone_bz W h)
  have h := Lib.hid h
  go_enter Tryz.func20, Tryz.ntmps20
  go_wp2_with (go_at_call 40; (with_reducible refine (c.out _ h.out).mono ?_); rintro e w2 ⟨rfl, rfl⟩)
  go_ret
  exact ⟨rfl, Own.refl _ _⟩
theorem births_bz {v : Value} (W : World) (h : BZ v W) : Calls Tryz.prog 21 #[v] W fun e w' => e = .returned (.int .i64 8) ∧ Own [] W w' := by
  have c := Lib.hid (fun W (h : BZ v W) => anone_bz W h)
  have h := Lib.hid h
  go_enter Tryz.func21, Tryz.ntmps21
  go_wp2_with (go_at_call 40; (with_reducible refine (c.out _ h.out).mono ?_); rintro e w2 ⟨rfl, rfl⟩)
  go_ret
  exact ⟨rfl, Own.refl _ _⟩
theorem asks_bz {v : Value} (W : World) (h : BZ v W) : Calls Tryz.prog 22 #[v] W fun e w' => e = .returned (.int .i64 8) ∧ Own [] W w' := by
  have c := Lib.hid (fun W (h : BZ v W) => anone_bz W h)
  have h := Lib.hid h
  go_enter Tryz.func22, Tryz.ntmps22
  go_wp2_with fail
  go_step3
  go_wp2_with (go_at_call 40; (with_reducible refine (c.out _ h.out).mono ?_); rintro e w2 ⟨rfl, rfl⟩)
  try rw [Exit.noGoto_ret]
  go_ret
  exact ⟨rfl, Own.refl _ _⟩
end Go.Proofs.YtacbahmmmndmbaaGreatDoor
