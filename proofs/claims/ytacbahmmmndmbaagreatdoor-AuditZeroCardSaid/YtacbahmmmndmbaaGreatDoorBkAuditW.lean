/- AuditZero: the walk. -/
import Derived.Test.YtacbahmmmndmbaaGreatDoorBkAuditZ
import Derived.Test.YtacbahmmmndmbaaGreatDoorBkArgs
set_option linter.unusedSimpArgs false
set_option linter.unusedVariables false
namespace Go.Proofs.YtacbahmmmndmbaaGreatDoor
open Go.RowKit

set_option maxRecDepth 100000 in
set_option maxHeartbeats 4000000 in
theorem awake41 (w : World) : Calls Tryz.prog 24 #[] w fun e w' => e = .returned (.bool true) ∧ Own [] w w' := by
  have cB := Lib.hid (bnew_any (Q := fun _ _ => True) (fun _ _ _ _ _ => trivial) (fun W => trieNew W) w)
  have cW := Lib.hid fun W p se tr ke km du dq dm sp m h hm bb r (H : B0 W p se tr ke km du dq dm sp m h hm bb r) => whole_b0 W H
  have cZ := Lib.hid fun W => whole_bz W (BZ.nil W)
  go_enter Tryz.func24, Tryz.ntmps24
  go_wp2_with fail
  refine cB.out.mono ?_
  rintro e w1 ⟨p, se, tr, ke, km, du, dq, dm, sp, m, h, hm, bb, r, rfl, hB, hO1, _⟩
  replace hB := Lib.hid hB
  replace hO1 := Lib.hid hO1
  go_wp2_with fail
  refine (cW.out _ _ _ _ _ _ _ _ _ _ _ _ _ _ _ hB.out).mono ?_
  rintro e w2 ⟨rfl, hO2⟩
  replace hO2 := Lib.hid hO2
  go_wp2_with (go_at_call 23; (with_reducible refine (cZ.out _).mono ?_); rintro e w3 ⟨rfl, hO3⟩; replace hO3 := Lib.hid hO3)
  go_ret
  exact ⟨rfl, (hO1.out.trans hO2.out).trans hO3.out⟩
set_option maxRecDepth 100000 in
set_option maxHeartbeats 4000000 in
theorem bdo_bz {v : Value} (k c n : Int) (d : ByteArray) (W : World) (h : BZ v W) : Calls Tryz.prog 5 #[v, .agg #[.int .i64 k, .int .i64 c, .int .i64 n, .string d]] W fun e w' => e = .returned (.int .i64 8) ∧ Own [] W w' := by
  have hA := (Own.refl [] W).alloc (.cells #[.int .i64 k, .int .i64 c, .int .i64 n, .string d] 23)
  have cN := Lib.hid (fun W' (ho : Own [] W W') => bnone_bz W' (h.own ho))
  replace hA := Lib.hid hA
  clear h
  go_enter Tryz.func5, Tryz.ntmps5
  go_wp2_with (go_at_call 25; (with_reducible refine (cN.out _ hA.out).mono ?_); rintro e w2 ⟨rfl, rfl⟩)
  go_ret
  exact ⟨rfl, hA.out⟩
theorem blkE {w : World} {b : Nat} {x0 x1 x2 x3 : Value} {T : TypeId} (h : w.heap[b]? = some (.cells #[x0, x1, x2, x3] T (0, 0))) :
    w.cell? ⟨b, 0, none⟩ = some x0 ∧ w.cell? ⟨b, 1, none⟩ = some x1 ∧ w.cell? ⟨b, 2, none⟩ = some x2 ∧ w.cell? ⟨b, 3, none⟩ = some x3 :=
  ⟨by rw [cell_of_row _ _ _ _ _ _ h]; rfl, by rw [cell_of_row _ _ _ _ _ _ h]; rfl, by rw [cell_of_row _ _ _ _ _ _ h]; rfl, by rw [cell_of_row _ _ _ _ _ _ h]; rfl⟩
def bzCells : Array Value := #[.pointer none, .int .i64 0, .int .i64 0, .pointer none, .int .i64 0, .int .i64 0, .pointer none, .int .i64 0, .int .i64 0, .pointer none, .int .i64 0, .int .i64 0, .pointer none, .int .i64 0, .int .i64 0, .pointer none, .int .i64 0, .int .i64 0, .pointer none, .int .i64 0, .int .i64 0, .pointer none, .int .i64 0, .int .i64 0,
  .slice none 0 0, .pointer none, .pointer none, .pointer none, .pointer none, .pointer none, .int .i64 0, .slice none 0 0, .slice none 0 0, .int .i64 0, .int .i64 0, .int .i64 0, .int .i64 0, .int .i64 0]
set_option maxRecDepth 100000 in
set_option maxHeartbeats 8000000 in
theorem auditZero_walk (x : SEv) (w : World) (_h : True) : Calls Tryz.prog 4 #[x.val] w fun e w' => e = .returned (.bool true) ∧ Below w.heap.size w w' := by
  obtain ⟨x1, x2, x3, x4⟩ := x
  unfold SEv.val
  have AW := Lib.hid fun W => awake41 W
  have cD := Lib.hid fun v W (h : BZ v W) => bdo_bz x1 x2 x3 x4 W h
  have c1 := Lib.hid fun v W (h : BZ v W) => caps_bz W h
  have c2 := Lib.hid fun v W (h : BZ v W) => wires_bz W h
  have c3 := Lib.hid fun v W (h : BZ v W) => folds_bz W h
  have c4 := Lib.hid fun v W (h : BZ v W) => births_bz W h
  have c5 := Lib.hid fun v W (h : BZ v W) => asks_bz W h
  have c6 := Lib.hid fun v W (h : BZ v W) => whole_bz W h
  have hA := ((Own.refl [] w).alloc (.cells #[.int .i64 x1, .int .i64 x2, .int .i64 x3, .string x4] 23)).alloc (.cells bzCells 40)
  have hz := heap_alloc2_new w (.cells #[.int .i64 x1, .int .i64 x2, .int .i64 x3, .string x4] 23) (.cells bzCells 40)
  have hZ0 : BZ (.pointer (some ⟨w.heap.size + 1, 0, none⟩)) ((w.alloc (.cells #[.int .i64 x1, .int .i64 x2, .int .i64 x3, .string x4] 23)).alloc (.cells bzCells 40)) := .inr ⟨_, rfl, by rw [cell_of_row _ _ _ _ _ _ hz]; rfl⟩
  have he := ((Own.refl [] (w.alloc (.cells #[.int .i64 x1, .int .i64 x2, .int .i64 x3, .string x4] 23))).alloc (.cells bzCells 40)).heap (heap_alloc_new w _) (by simp)
  obtain ⟨v0, v1, v2, v3⟩ := blkE he
  clear hz he
  have hZ := Lib.hid fun W (ho : Own [] ((w.alloc (.cells #[.int .i64 x1, .int .i64 x2, .int .i64 x3, .string x4] 23)).alloc (.cells bzCells 40)) W) => hZ0.own ho
  have hB := Lib.hid fun W (ho : Own [] ((w.alloc (.cells #[.int .i64 x1, .int .i64 x2, .int .i64 x3, .string x4] 23)).alloc (.cells bzCells 40)) W) => (hA.trans ho).below (Nat.le_refl _) (by simp)
  clear hZ0 hA
  unfold bzCells at hZ hB v0 v1 v2 v3
  go_enter Tryz.func4, Tryz.ntmps4
  go_wp2_with fail
  generalize ((w.alloc (.cells #[.int .i64 x1, .int .i64 x2, .int .i64 x3, .string x4] 23)).alloc (.cells #[.pointer none, .int .i64 0, .int .i64 0, .pointer none, .int .i64 0, .int .i64 0, .pointer none, .int .i64 0, .int .i64 0, .pointer none, .int .i64 0, .int .i64 0, .pointer none, .int .i64 0, .int .i64 0, .pointer none, .int .i64 0, .int .i64 0, .pointer none, .int .i64 0, .int .i64 0, .pointer none, .int .i64 0, .int .i64 0, .slice none 0 0, .pointer none, .pointer none, .pointer none, .pointer none, .pointer none, .int .i64 0, .slice none 0 0, .slice none 0 0, .int .i64 0, .int .i64 0, .int .i64 0, .int .i64 0, .int .i64 0] 40)) = W0 at *
  generalize w.heap.size + 1 = z at *
  refine (cD.out _ _ (hZ.out _ (Own.refl _ _))).mono ?_
  rintro e w1 ⟨rfl, hO⟩
  replace hO := Lib.hid hO
  clear cD v0 v1 v2 v3
  go_wp2_with (first
    | (go_at_call 18; (with_reducible refine (c1.out _ _ (BZ.nil _)).mono ?_); rintro e w2 ⟨rfl, hO2⟩; replace hO := Lib.hid (hO.out.trans hO2); clear hO2)
    | (go_at_call 19; (with_reducible refine (c2.out _ _ (hZ.out _ hO.out)).mono ?_); rintro e w2 ⟨rfl, hO2⟩; replace hO := Lib.hid (hO.out.trans hO2); clear hO2)
    | (go_at_call 20; (with_reducible refine (c3.out _ _ (BZ.nil _)).mono ?_); rintro e w2 ⟨rfl, hO2⟩; replace hO := Lib.hid (hO.out.trans hO2); clear hO2)
    | (go_at_call 21; (with_reducible refine (c4.out _ _ (hZ.out _ hO.out)).mono ?_); rintro e w2 ⟨rfl, hO2⟩; replace hO := Lib.hid (hO.out.trans hO2); clear hO2)
    | (go_at_call 22; (with_reducible refine (c5.out _ _ (BZ.nil _)).mono ?_); rintro e w2 ⟨rfl, hO2⟩; replace hO := Lib.hid (hO.out.trans hO2); clear hO2)
    | (go_at_call 23; (with_reducible refine (c6.out _ _ (hZ.out _ hO.out)).mono ?_); rintro e w2 ⟨rfl, hO2⟩; replace hO := Lib.hid (hO.out.trans hO2); clear hO2)
    | (go_at_call 24; (with_reducible refine (AW.out _).mono ?_); rintro e w2 ⟨rfl, hO2⟩; replace hO := Lib.hid (hO.out.trans hO2); clear hO2))
  go_ret
  exact ⟨rfl, hB.out _ hO.out⟩
end Go.Proofs.YtacbahmmmndmbaaGreatDoor
