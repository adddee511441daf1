/- Sorts of no elements. -/
import Derived.Test.YtecociaolohfmaaGreatDoorProg
import Derived.Test.YtecociaolohfmaaGreatDoorBase
import Derived.Test.YtecociaolohfmaaGreatDoorMaps
import Derived.Deep.LoopGhost
set_option linter.unusedSimpArgs false
set_option linter.unusedVariables false
namespace Go.Proofs.YtecociaolohfmaaGreatDoor
open Go.RowKit

set_option maxRecDepth 100000 in
set_option maxHeartbeats 2000000 in
theorem nvins_nil (a : Option Addr) (c : Nat) (fv : Value) (W : World) : Calls Tryz.prog 71 #[.slice a 0 c, .int .i64 0, .int .i64 0, fv] W fun e w' => e = .returned (.tuple #[]) ∧ W = w' := by
  go_enter Tryz.func71, Tryz.ntmps71
  go_wp2_with fail
  refine wp_loop_rounds 1 ?_
  rw [rounds_succ]
  go_wp2_with fail
  go_end0
  exact ⟨rfl, rfl⟩
set_option maxRecDepth 100000 in
set_option maxHeartbeats 2000000 in
theorem nvpdq_nil (a : Option Addr) (c : Nat) (fv : Value) (n : Int) (W : World) : Calls Tryz.prog 36 #[.slice a 0 c, .int .i64 0, .int .i64 0, .int .i64 n, fv] W fun e w' => e = .returned (.tuple #[]) ∧ W = w' := by
  have H := Lib.hid (fun W => nvins_nil a c fv W)
  go_enter Tryz.func36, Tryz.ntmps36
  go_wp2_with fail
  refine wp_loop_rounds 1 ?_
  rw [rounds_succ]
  go_wp2_with (go_at_call 71; refine (H.out _).mono ?_; rintro e w' ⟨rfl, rfl⟩)
  (try simp only [Exit.inBlock, Exit.then]); refine bodyPost_ret (results_none rfl _ _ _) rfl ?_
  exact ⟨rfl, rfl⟩
set_option maxRecDepth 100000 in
set_option maxHeartbeats 2000000 in
theorem nvsort_nil (a : Option Addr) (c : Nat) (fv : Value) (W : World) : Calls Tryz.prog 15 #[.slice a 0 c, fv] W fun e w' => e = .returned (.tuple #[]) ∧ W = w' := by
  have H := Lib.hid (fun n W => nvpdq_nil a c fv n W)
  go_enter Tryz.func15, Tryz.ntmps15
  go_wp2_with (first | (go_at_call 36; refine (H.out _ _).mono ?_; rintro e w' ⟨rfl, rfl⟩) | go_in)
  go_end0
  exact ⟨rfl, rfl⟩
set_option maxRecDepth 100000 in
set_option maxHeartbeats 2000000 in
theorem hvins_nil (a : Option Addr) (c : Nat) (fv : Value) (W : World) : Calls Tryz.prog 118 #[.slice a 0 c, .int .i64 0, .int .i64 0, fv] W fun e w' => e = .returned (.tuple #[]) ∧ W = w' := by
  go_enter Tryz.func118, Tryz.ntmps118
  go_wp2_with fail
  refine wp_loop_rounds 1 ?_
  rw [rounds_succ]
  go_wp2_with fail
  go_end0
  exact ⟨rfl, rfl⟩
set_option maxRecDepth 100000 in
set_option maxHeartbeats 2000000 in
theorem hvpdq_nil (a : Option Addr) (c : Nat) (fv : Value) (n : Int) (W : World) : Calls Tryz.prog 81 #[.slice a 0 c, .int .i64 0, .int .i64 0, .int .i64 n, fv] W fun e w' => e = .returned (.tuple #[]) ∧ W = w' := by
  have H := Lib.hid (fun W => hvins_nil a c fv W)
  go_enter Tryz.func81, Tryz.ntmps81
  go_wp2_with fail
  refine wp_loop_rounds 1 ?_
  rw [rounds_succ]
  go_wp2_with (go_at_call 118; refine (H.out _).mono ?_; rintro e w' ⟨rfl, rfl⟩)
  (try simp only [Exit.inBlock, Exit.then]); refine bodyPost_ret (results_none rfl _ _ _) rfl ?_
  exact ⟨rfl, rfl⟩
set_option maxRecDepth 100000 in
set_option maxHeartbeats 2000000 in
theorem hvsort_nil (a : Option Addr) (c : Nat) (fv : Value) (W : World) : Calls Tryz.prog 41 #[.slice a 0 c, fv] W fun e w' => e = .returned (.tuple #[]) ∧ W = w' := by
  have H := Lib.hid (fun n W => hvpdq_nil a c fv n W)
  go_enter Tryz.func41, Tryz.ntmps41
  go_wp2_with (first | (go_at_call 81; refine (H.out _ _).mono ?_; rintro e w' ⟨rfl, rfl⟩) | go_in)
  go_end0
  exact ⟨rfl, rfl⟩
end Go.Proofs.YtecociaolohfmaaGreatDoor
