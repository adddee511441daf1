/- SparkZero: one that nobody made knows nothing; the law's own little run. -/
import Derived.Test.YtecociaolohfmaaGreatDoorSpTake
import Derived.Test.YtecociaolohfmaaGreatDoorSpNodes
import Derived.Test.YtecociaolohfmaaGreatDoorSpLaid
set_option linter.unusedSimpArgs false
set_option linter.unusedVariables false
namespace Go.Proofs.YtecociaolohfmaaGreatDoor
open Go.RowKit

theorem rateNew2 (W : World) : Calls Tryz.prog 49 #[.int .i64 10] W fun e w' => ∃ s, e = .returned (.tuple #[Ptr s, .int .i64 0]) ∧ w'.heap[s]? = some (.cells #[.int .i64 10, .slice none 0 0, .bool true] 171 (0, 0)) ∧ Own [] W w' ∧ W.heap.size ≤ s := by
  go_enter Tryz.func49, Tryz.ntmps49
  go_wp2_with (go_in)
  go_ret2
  exact ⟨_, rfl, heap_alloc_new _ _, (Own.refl _ _).alloc _, Nat.le_refl _⟩
set_option maxRecDepth 100000 in
set_option maxHeartbeats 2000000 in
theorem sparkNew2 (W : World) : Calls Tryz.prog 22 #[] W fun e w' => ∃ p m h hm bb r, e = .returned (Ptr p) ∧ SN w' p m h hm bb r ∧ Own [] W w' ∧ W.heap.size ≤ p ∧ W.heap.size ≤ m ∧ W.heap.size ≤ r := by
  have hmm := @run_makeMap Tryz.prog
  have cR := Lib.hid (fun W => rateNew2 W)
  have cH := Lib.hid (fun W => hostNew W)
  have cB := Lib.hid (fun W => birthsNew W)
  go_enter Tryz.func22, Tryz.ntmps22
  go_wp2_with fail
  with_reducible refine (cR.out _).mono ?_
  rintro e w1 ⟨r, rfl, hR, hO1, hr1⟩
  replace hR := Lib.hid hR
  replace hO1 := Lib.hid hO1
  go_wp2_with fail
  have hO2 := Lib.hid (hO1.out.alloc (.map #[] 0))
  have hM := Lib.hid (MapS.made (enc := keyEnc) w1)
  have hR2 := Lib.hid (((Own.refl [] w1).alloc (.map #[] 0)).heap hR.out (by simp))
  with_reducible refine (cH.out _).mono ?_
  rintro e w3 ⟨h, hm, rfl, hH, hO3⟩
  have hM3 := Lib.hid (hM.out.own hO3 (by simp))
  have hR3 := Lib.hid (hO3.heap hR2.out (by simp))
  replace hO3 := Lib.hid (hO2.out.trans hO3)
  replace hH := Lib.hid hH
  clear hM hR2 hR
  go_wp2_with fail
  with_reducible refine (cB.out _).mono ?_
  rintro e w4 ⟨bb, rfl, hB, hO4⟩
  have hM4 := Lib.hid (hM3.out.own hO4 (by simp))
  have hR4 := Lib.hid (hO4.heap hR3.out (by simp))
  have hH4 := Lib.hid (hH.out.own hO4)
  replace hO4 := Lib.hid (hO3.out.trans hO4)
  replace hB := Lib.hid hB
  clear hM3 hR3 hH
  go_wp2_with fail
  go_ret
  have hA := (Own.refl [] w4).alloc (.cells #[.map (some w1.heap.size), Ptr h, Ptr bb, Ptr r, .int .i64 0] 30)
  exact ⟨_, _, _, _, _, _, rfl, ⟨heap_alloc_new _ _, hM4.out.own hA (by simp), hH4.out.own hA, hA.heap hB.out (by simp), hA.heap hR4.out (by simp)⟩, hO4.out.trans hA, hO4.out.size, hO1.out.size, hr1⟩
set_option maxRecDepth 100000 in
set_option maxHeartbeats 4000000 in
theorem awake37 (w : World) (hT : Tabs37 w) : Calls Tryz.prog 10 #[] w fun e w' => e = .returned (.bool true) ∧ Own [] w w' := by
  go_enter Tryz.func10, Tryz.ntmps10
  go_wp2_with fail
  refine (sparkNew2 w).mono ?_
  rintro e w1 ⟨p, m, h, hm, bb, r, rfl, hS, hO1, hp, hm', hr⟩
  have hT1 := hT.own hO1
  have cT := take_first w1 hS hT1.1 hT1.2.1 hT1.2.2
  unfold topicB gB nB at cT
  replace cT := Lib.hid cT
  replace hO1 := Lib.hid hO1
  clear hS hT1
  go_wp2_with fail
  refine cT.out.mono ?_
  rintro e w2 ⟨rfl, n, rr, a, hF, hp2, hM2, hO2⟩
  have hO2' : Own [] w w2 := hO1.out.trans' hO2 (fun z hz => .inr (by simp at hz; omega))
  have hAl := (Own.refl [] w2).alloc (.cells #[.int .i64 5, .string ⟨#[103]⟩, .string ⟨#[110]⟩, .bool true] 35)
  have hp3 := hAl.heap hp2 (by simp)
  have hM3 := hM2.own hAl (by simp)
  have hF3 := hF.own hAl
  have hO3 := Lib.hid (hO2'.trans hAl)
  have h0 : (w2.alloc (.cells #[.int .i64 5, .string ⟨#[103]⟩, .string ⟨#[110]⟩, .bool true] 35)).cell? ⟨p, 0, none⟩ = some (.map (some m)) := by rw [cell_of_row _ _ _ _ _ _ hp3]; rfl
  have cN := Lib.hid (nodes_one _ h0 hM3 hF3)
  have cA := Lib.hid fun W (ho : Own [] (w2.alloc (.cells #[.int .i64 5, .string ⟨#[103]⟩, .string ⟨#[110]⟩, .bool true] 35)) W) => asked_one W (ho.heap hp3 (by simp))
  obtain ⟨v0, v1, v2, v3⟩ := blkS (heap_alloc_new w2 (.cells #[.int .i64 5, .string ⟨#[103]⟩, .string ⟨#[110]⟩, .bool true] 35))
  clear cT hF hp2 hM2 hO2 hO2' hp3 hM3 hF3 h0 hAl
  go_wp2_with (first
    | (go_at_call 5; (with_reducible refine cN.out.mono ?_); rintro e w4 ⟨⟨a4, c4, rfl⟩, hO4⟩; have cA4 := Lib.hid (cA.out _ hO4); replace hO4 := Lib.hid hO4)
    | (go_at_call 9; (with_reducible refine cA4.out.mono ?_); rintro e w5 ⟨rfl, rfl⟩))
  go_ret
  exact ⟨rfl, hO3.out.trans hO4.out⟩
end Go.Proofs.YtecociaolohfmaaGreatDoor
