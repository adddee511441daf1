/- A spark that was just made: its blocks are new. -/
import Derived.Test.YtacbahmmmndmbaaGreatDoorSpNew
set_option linter.unusedSimpArgs false
set_option linter.unusedVariables false
namespace Go.Proofs.YtacbahmmmndmbaaGreatDoor
open Go.RowKit

theorem rateNew2 (W : World) : Calls Tryz.prog 94 #[.int .i64 10] W fun e w' => ∃ s, e = .returned (.tuple #[Ptr s, .int .i64 0]) ∧ w'.heap[s]? = some (.cells #[.int .i64 10, .slice none 0 0, .bool true] 298 (0, 0)) ∧ Own [] W w' ∧ W.heap.size ≤ s := by
  go_enter Tryz.func94, Tryz.ntmps94
  go_wp2_with (go_in)
  go_ret2
  exact ⟨_, rfl, heap_alloc_new _ _, (Own.refl _ _).alloc _, Nat.le_refl _⟩
set_option maxRecDepth 100000 in
set_option maxHeartbeats 2000000 in
theorem sparkNew2 (W : World) : Calls Tryz.prog 48 #[] W fun e w' => ∃ p m h hm bb r, e = .returned (Ptr p) ∧ SN w' p m h hm bb r ∧ Own [] W w' ∧ W.heap.size ≤ p ∧ W.heap.size ≤ m ∧ W.heap.size ≤ r := by
  have hmm := @run_makeMap Tryz.prog
  have cR := Lib.hid (fun W => rateNew2 W)
  have cH := Lib.hid (fun W => hostNew W)
  have cB := Lib.hid (fun W => birthsNew W)
  go_enter Tryz.func48, Tryz.ntmps48
  go_wp2_with fail
  with_reducible refine (cR.out _).mono ?_
  rintro e w1 ⟨r, rfl, hR, hO1, hr1⟩
  replace hR := Lib.hid hR
  replace hO1 := Lib.hid hO1
  go_wp2_with fail
  have hO2 := Lib.hid (hO1.out.alloc (.map #[] 0))
  have hM := Lib.hid (MapS.made (enc := keyEnc) w1)
  have hR2 := Lib.hid (((Own.refl [] w1).alloc (.map #[] 0)).heap hR.out (by simp))
  with_reducible refine (cH.out _).mono ?_
  rintro e w3 ⟨h, hm, rfl, hH, hO3⟩
  have hM3 := Lib.hid (hM.out.own hO3 (by simp))
  have hR3 := Lib.hid (hO3.heap hR2.out (by simp))
  replace hO3 := Lib.hid (hO2.out.trans hO3)
  replace hH := Lib.hid hH
  clear hM hR2 hR
  go_wp2_with fail
  with_reducible refine (cB.out _).mono ?_
  rintro e w4 ⟨bb, rfl, hB, hO4⟩
  have hM4 := Lib.hid (hM3.out.own hO4 (by simp))
  have hR4 := Lib.hid (hO4.heap hR3.out (by simp))
  have hH4 := Lib.hid (hH.out.own hO4)
  replace hO4 := Lib.hid (hO3.out.trans hO4)
  replace hB := Lib.hid hB
  clear hM3 hR3 hH
  go_wp2_with fail
  go_ret
  have hA := (Own.refl [] w4).alloc (.cells #[.map (some w1.heap.size), Ptr h, Ptr bb, Ptr r, .int .i64 0] 177)
  exact ⟨_, _, _, _, _, _, rfl, ⟨heap_alloc_new _ _, hM4.out.own hA (by simp), hH4.out.own hA, hA.heap hB.out (by simp), hA.heap hR4.out (by simp)⟩, hO4.out.trans hA, hO4.out.size, hO1.out.size, hr1⟩
end Go.Proofs.YtacbahmmmndmbaaGreatDoor
