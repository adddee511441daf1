/- AuditZero: of a broker that nobody made nothing holds; the law's own little run. -/
import Derived.Test.YtacbahmmmndmbaaGreatDoorBkAudit
set_option linter.unusedSimpArgs false
set_option linter.unusedVariables false
namespace Go.Proofs.YtacbahmmmndmbaaGreatDoor
open Go.RowKit

def chkCells : Array Value := #[.func (.func 18) #[] #[], .func (.func 19) #[] #[], .func (.func 20) #[] #[], .func (.func 21) #[] #[], .func (.func 22) #[] #[]]
set_option maxRecDepth 100000 in
set_option maxHeartbeats 4000000 in
theorem whole_bz {v : Value} (W : World) (h : BZ v W) : Calls Tryz.prog 23 #[v] W fun e w' => e = .returned (.int .i64 8) ∧ Own [] W w' := by
  have hA := (Own.refl [] W).alloc (.cells chkCells 122)
  have c := Lib.hid (fun W' (ho : Own [] W W') => caps_bz W' (h.own ho))
  have hb := heap_alloc_new W (.cells chkCells 122)
  clear h
  unfold chkCells at hA hb
  go_enter Tryz.func23, Tryz.ntmps23
  go_wp2_with fail
  have c0 : (W.alloc (.cells #[.func (.func 18) #[] #[], .func (.func 19) #[] #[], .func (.func 20) #[] #[], .func (.func 21) #[] #[], .func (.func 22) #[] #[]] 122)).cell? ⟨W.heap.size, 0, none⟩ = some (.func (.func 18) #[] #[]) := cell_of_row _ _ 0 _ _ _ hb
  replace hA := Lib.hid hA
  clear hb
  refine wp_loop_rounds 1 ?_
  rw [rounds_succ]
  go_wp2_with fail
  refine (c.out _ (hA.out.alloc _)).mono ?_
  rintro e w2 ⟨rfl, hO⟩
  have hO2 := Lib.hid ((hA.out.alloc (.cells #[.func (.func 18) #[] #[]] 122)).trans hO)
  clear hO c0 c
  go_wp2_with fail
  go_ret
  exact ⟨rfl, hO2.out⟩
section
variable {W0 : World} {p se tr ke km du dq dm sp m h hm bb r : Nat}
set_option maxRecDepth 100000 in
set_option maxHeartbeats 8000000 in
theorem whole_b0 (W : World) (H : B0 W p se tr ke km du dq dm sp m h hm bb r) : Calls Tryz.prog 23 #[Ptr p] W fun e w' => e = .returned (.int .i64 0) ∧ Own [] W w' := by
  have hA := (Own.refl [] W).alloc (.cells chkCells 122)
  have H1 := H.own hA
  have hb0 := heap_alloc_new W (.cells chkCells 122)
  clear H
  unfold chkCells at hA hb0 H1
  go_enter Tryz.func23, Tryz.ntmps23
  go_wp2_with fail
  obtain ⟨W1, hW1⟩ : ∃ W1, (W.alloc (.cells #[.func (.func 18) #[] #[], .func (.func 19) #[] #[], .func (.func 20) #[] #[], .func (.func 21) #[] #[], .func (.func 22) #[] #[]] 122)) = W1 := ⟨_, rfl⟩
  rw [hW1] at hA hb0 H1 ⊢
  clear hW1
  have k1 := Lib.hid fun W' (ho : Own [] W1 W') => caps_b0 H1 ho
  have k2 := Lib.hid fun W' (ho : Own [] W1 W') => wires_b0 H1 ho
  have k3 := Lib.hid fun W' (ho : Own [] W1 W') => folds_b0 H1 ho
  have k4 := Lib.hid fun W' (ho : Own [] W1 W') => births_b0 H1 ho
  have k5 := Lib.hid fun W' (ho : Own [] W1 W') => asks_b0 H1 ho
  have hb := Lib.hid fun W' (ho : Own [] W1 W') => ho.heap hb0 (by simp)
  clear H1 hb0
  generalize W.heap.size = st at *
  replace hA := Lib.hid hA
  have ho : Hid (Own [] W1 W1) := Lib.hid (Own.refl _ _)
  refine wp_loop_rounds 6 ?_
  rw [rounds_succ]
  have c0 := cell_of_row _ st 0 _ _ _ (hb.out _ ho.out)
  simp only [List.getElem?_toArray, List.getElem?_cons_zero, List.getElem?_cons_succ] at c0
  go_wp2_with fail
  refine (k1.out _ (ho.out.alloc _)).mono ?_
  rintro e w2 ⟨rfl, hO⟩
  replace ho := Lib.hid hO
  clear hO c0 k1
  go_wp2_with fail
  rw [rounds_succ]
  have c1 := cell_of_row _ st 1 _ _ _ (hb.out _ ho.out)
  simp only [List.getElem?_toArray, List.getElem?_cons_zero, List.getElem?_cons_succ] at c1
  go_wp2_with fail
  refine (k2.out _ (ho.out.alloc _)).mono ?_
  rintro e w3 ⟨rfl, hO⟩
  replace ho := Lib.hid hO
  clear hO c1 k2
  go_wp2_with fail
  rw [rounds_succ]
  have c2 := cell_of_row _ st 2 _ _ _ (hb.out _ ho.out)
  simp only [List.getElem?_toArray, List.getElem?_cons_zero, List.getElem?_cons_succ] at c2
  go_wp2_with fail
  refine (k3.out _ (ho.out.alloc _)).mono ?_
  rintro e w4 ⟨rfl, hO⟩
  replace ho := Lib.hid hO
  clear hO c2 k3
  go_wp2_with fail
  rw [rounds_succ]
  have c3 := cell_of_row _ st 3 _ _ _ (hb.out _ ho.out)
  simp only [List.getElem?_toArray, List.getElem?_cons_zero, List.getElem?_cons_succ] at c3
  go_wp2_with fail
  refine (k4.out _ (ho.out.alloc _)).mono ?_
  rintro e w5 ⟨rfl, hO⟩
  replace ho := Lib.hid hO
  clear hO c3 k4
  go_wp2_with fail
  rw [rounds_succ]
  have c4 := cell_of_row _ st 4 _ _ _ (hb.out _ ho.out)
  simp only [List.getElem?_toArray, List.getElem?_cons_zero, List.getElem?_cons_succ] at c4
  go_wp2_with fail
  refine (k5.out _ (ho.out.alloc _)).mono ?_
  rintro e w6 ⟨rfl, hO⟩
  replace ho := Lib.hid hO
  clear hO c4 k5
  go_wp2_with fail
  rw [rounds_succ]
  go_wp2_with fail
  go_ret
  exact ⟨rfl, hA.out.trans ho.out⟩
end
end Go.Proofs.YtacbahmmmndmbaaGreatDoor
