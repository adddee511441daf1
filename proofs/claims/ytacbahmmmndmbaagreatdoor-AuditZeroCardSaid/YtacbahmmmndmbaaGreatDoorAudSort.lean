/- Sorts of no elements. -/
import Derived.Test.YtacbahmmmndmbaaGreatDoorProg
import Derived.Test.YtacbahmmmndmbaaGreatDoorBase
import Derived.Test.YtacbahmmmndmbaaGreatDoorMaps
import Derived.Deep.LoopGhost
set_option linter.unusedSimpArgs false
set_option linter.unusedVariables false
namespace Go.Proofs.YtacbahmmmndmbaaGreatDoor
open Go.RowKit

set_option maxRecDepth 100000 in
set_option maxHeartbeats 2000000 in
theorem nvins_nil (a : Option Addr) (c : Nat) (fv : Value) (W : World) : Calls Tryz.prog 219 #[.slice a 0 c, .int .i64 0, .int .i64 0, fv] W fun e w' => e = .returned (.tuple #[]) ∧ W = w' := by
  go_enter Tryz.func219, Tryz.ntmps219
  go_wp2_with fail
  refine wp_loop_rounds 1 ?_
  rw [rounds_succ]
  go_wp2_with fail
  go_end0
  exact ⟨rfl, rfl⟩
set_option maxRecDepth 100000 in
set_option maxHeartbeats 2000000 in
theorem nvpdq_nil (a : Option Addr) (c : Nat) (fv : Value) (n : Int) (W : World) : Calls Tryz.prog 148 #[.slice a 0 c, .int .i64 0, .int .i64 0, .int .i64 n, fv] W fun e w' => e = .returned (.tuple #[]) ∧ W = w' := by
  have H := Lib.hid (fun W => nvins_nil a c fv W)
  go_enter Tryz.func148, Tryz.ntmps148
  go_wp2_with fail
  refine wp_loop_rounds 1 ?_
  rw [rounds_succ]
  go_wp2_with (go_at_call 219; refine (H.out _).mono ?_; rintro e w' ⟨rfl, rfl⟩)
  (try simp only [Exit.inBlock, Exit.then]); refine bodyPost_ret (results_none rfl _ _ _) rfl ?_
  exact ⟨rfl, rfl⟩
set_option maxRecDepth 100000 in
set_option maxHeartbeats 2000000 in
theorem nvsort_nil (a : Option Addr) (c : Nat) (fv : Value) (W : World) : Calls Tryz.prog 86 #[.slice a 0 c, fv] W fun e w' => e = .returned (.tuple #[]) ∧ W = w' := by
  have H := Lib.hid (fun n W => nvpdq_nil a c fv n W)
  go_enter Tryz.func86, Tryz.ntmps86
  go_wp2_with (first | (go_at_call 148; refine (H.out _ _).mono ?_; rintro e w' ⟨rfl, rfl⟩) | go_in)
  go_end0
  exact ⟨rfl, rfl⟩
set_option maxRecDepth 100000 in
set_option maxHeartbeats 2000000 in
theorem hvins_nil (a : Option Addr) (c : Nat) (fv : Value) (W : World) : Calls Tryz.prog 308 #[.slice a 0 c, .int .i64 0, .int .i64 0, fv] W fun e w' => e = .returned (.tuple #[]) ∧ W = w' := by
  go_enter Tryz.func308, Tryz.ntmps308
  go_wp2_with fail
  refine wp_loop_rounds 1 ?_
  rw [rounds_succ]
  go_wp2_with fail
  go_end0
  exact ⟨rfl, rfl⟩
set_option maxRecDepth 100000 in
set_option maxHeartbeats 2000000 in
theorem hvpdq_nil (a : Option Addr) (c : Nat) (fv : Value) (n : Int) (W : World) : Calls Tryz.prog 227 #[.slice a 0 c, .int .i64 0, .int .i64 0, .int .i64 n, fv] W fun e w' => e = .returned (.tuple #[]) ∧ W = w' := by
  have H := Lib.hid (fun W => hvins_nil a c fv W)
  go_enter Tryz.func227, Tryz.ntmps227
  go_wp2_with fail
  refine wp_loop_rounds 1 ?_
  rw [rounds_succ]
  go_wp2_with (go_at_call 308; refine (H.out _).mono ?_; rintro e w' ⟨rfl, rfl⟩)
  (try simp only [Exit.inBlock, Exit.then]); refine bodyPost_ret (results_none rfl _ _ _) rfl ?_
  exact ⟨rfl, rfl⟩
set_option maxRecDepth 100000 in
set_option maxHeartbeats 2000000 in
theorem hvsort_nil (a : Option Addr) (c : Nat) (fv : Value) (W : World) : Calls Tryz.prog 151 #[.slice a 0 c, fv] W fun e w' => e = .returned (.tuple #[]) ∧ W = w' := by
  have H := Lib.hid (fun n W => hvpdq_nil a c fv n W)
  go_enter Tryz.func151, Tryz.ntmps151
  go_wp2_with (first | (go_at_call 227; refine (H.out _ _).mono ?_; rintro e w' ⟨rfl, rfl⟩) | go_in)
  go_end0
  exact ⟨rfl, rfl⟩
set_option maxRecDepth 100000 in
set_option maxHeartbeats 2000000 in
theorem msins_nil (a : Option Addr) (c : Nat) (fv : Value) (W : World) : Calls Tryz.prog 271 #[.slice a 0 c, .int .i64 0, .int .i64 0, fv] W fun e w' => e = .returned (.tuple #[]) ∧ W = w' := by
  go_enter Tryz.func271, Tryz.ntmps271
  go_wp2_with fail
  refine wp_loop_rounds 1 ?_
  rw [rounds_succ]
  go_wp2_with fail
  go_end0
  exact ⟨rfl, rfl⟩
set_option maxRecDepth 100000 in
set_option maxHeartbeats 2000000 in
theorem mspdq_nil (a : Option Addr) (c : Nat) (fv : Value) (n : Int) (W : World) : Calls Tryz.prog 193 #[.slice a 0 c, .int .i64 0, .int .i64 0, .int .i64 n, fv] W fun e w' => e = .returned (.tuple #[]) ∧ W = w' := by
  have H := Lib.hid (fun W => msins_nil a c fv W)
  go_enter Tryz.func193, Tryz.ntmps193
  go_wp2_with fail
  refine wp_loop_rounds 1 ?_
  rw [rounds_succ]
  go_wp2_with (go_at_call 271; refine (H.out _).mono ?_; rintro e w' ⟨rfl, rfl⟩)
  (try simp only [Exit.inBlock, Exit.then]); refine bodyPost_ret (results_none rfl _ _ _) rfl ?_
  exact ⟨rfl, rfl⟩
set_option maxRecDepth 100000 in
set_option maxHeartbeats 2000000 in
theorem mssort_nil (a : Option Addr) (c : Nat) (fv : Value) (W : World) : Calls Tryz.prog 120 #[.slice a 0 c, fv] W fun e w' => e = .returned (.tuple #[]) ∧ W = w' := by
  have H := Lib.hid (fun n W => mspdq_nil a c fv n W)
  go_enter Tryz.func120, Tryz.ntmps120
  go_wp2_with (first | (go_at_call 193; refine (H.out _ _).mono ?_; rintro e w' ⟨rfl, rfl⟩) | go_in)
  go_end0
  exact ⟨rfl, rfl⟩
end Go.Proofs.YtacbahmmmndmbaaGreatDoor
