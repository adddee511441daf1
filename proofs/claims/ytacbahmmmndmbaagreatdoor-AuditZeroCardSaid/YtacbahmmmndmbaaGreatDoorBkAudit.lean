/- audit's checks at a broker that was just made, and at one that nobody made. -/
import Derived.Test.YtacbahmmmndmbaaGreatDoorBkAud
import Derived.Test.YtacbahmmmndmbaaGreatDoorSpNew2
import Derived.WalkMore
set_option linter.unusedSimpArgs false
set_option linter.unusedVariables false
namespace Go.Proofs.YtacbahmmmndmbaaGreatDoor
open Go.RowKit

theorem nvindex_nil (fv : Value) (W : World) : Calls Tryz.prog 90 #[.slice none 0 0, fv] W fun e w' => e = .returned (.int .i64 (-1)) ∧ W = w' := by
  go_enter Tryz.func90, Tryz.ntmps90
  go_wp2_with fail
  refine wp_loop_rounds 1 ?_
  rw [rounds_succ]
  go_wp2_with fail
  go_ret
  exact ⟨rfl, rfl⟩
theorem nvcontains_nil (fv : Value) (W : World) : Calls Tryz.prog 44 #[.slice none 0 0, fv] W fun e w' => e = .returned (.bool false) ∧ W = w' := by
  have c := Lib.hid (fun fv W => nvindex_nil fv W)
  go_enter Tryz.func44, Tryz.ntmps44
  go_wp2_with (go_at_call 90; (with_reducible refine (c.out _ _).mono ?_); rintro e w2 ⟨rfl, rfl⟩)
  go_ret
  exact ⟨rfl, rfl⟩
theorem alive_nil (W : World) : Calls Tryz.prog 42 #[.slice none 0 0] W fun e w' => e = .returned (.int .i64 0) ∧ W = w' := by
  go_enter Tryz.func42, Tryz.ntmps42
  go_wp2_with fail
  refine wp_loop_rounds 1 ?_
  rw [rounds_succ]
  go_wp2_with fail
  go_ret
  exact ⟨rfl, rfl⟩
theorem nveq_nil (fv : Value) (W : World) : Calls Tryz.prog 50 #[.slice none 0 0, .slice none 0 0, fv] W fun e w' => e = .returned (.bool true) ∧ W = w' := by
  go_enter Tryz.func50, Tryz.ntmps50
  go_wp2_with fail
  refine wp_loop_rounds 1 ?_
  rw [rounds_succ]
  go_wp2_with fail
  go_ret
  exact ⟨rfl, rfl⟩
theorem hveq_nil (a b : Option Addr) (c d : Nat) (W : World) : Calls Tryz.prog 52 #[.slice a 0 c, .slice b 0 d] W fun e w' => e = .returned (.bool true) ∧ W = w' := by
  go_enter Tryz.func52, Tryz.ntmps52
  go_wp2_with fail
  refine wp_loop_rounds 1 ?_
  rw [rounds_succ]
  go_wp2_with fail
  go_ret
  exact ⟨rfl, rfl⟩
theorem bieq_nil (W : World) : Calls Tryz.prog 53 #[.slice none 0 0, .slice none 0 0] W fun e w' => e = .returned (.bool true) ∧ W = w' := by
  go_enter Tryz.func53, Tryz.ntmps53
  go_wp2_with fail
  refine wp_loop_rounds 1 ?_
  rw [rounds_succ]
  go_wp2_with fail
  go_ret
  exact ⟨rfl, rfl⟩
theorem topics_nil (W : World) : Calls Tryz.prog 55 #[.slice none 0 0] W fun e w' => e = .returned (.slice none 0 0) ∧ W = w' := by
  go_enter Tryz.func55, Tryz.ntmps55
  go_wp2_with fail
  refine wp_loop_rounds 1 ?_
  rw [rounds_succ]
  go_wp2_with fail
  go_ret
  exact ⟨rfl, rfl⟩
section
variable {W0 W : World} {p se tr ke km du dq dm sp m h hm bb r : Nat}
set_option maxRecDepth 100000 in
set_option maxHeartbeats 4000000 in
theorem caps_b0 (H : B0 W0 p se tr ke km du dq dm sp m h hm bb r) (ho : Own [] W0 W) : Calls Tryz.prog 18 #[Ptr p] W fun e w' => e = .returned (.int .i64 0) ∧ Own [] W0 w' := by
  have c1 := Lib.hid fun W (ho : Own [] W0 W) => anone_b0 H ho
  have c2 := Lib.hid fun W (ho : Own [] W0 W) => bspark_b0 H ho
  have c3 := Lib.hid fun W (ho : Own [] W0 W) => nodes_none W (H.own ho).sp
  have c4 := Lib.hid fun W (ho : Own [] W0 W) => blinks_b0 H ho
  have c5 := Lib.hid fun W => alive_nil W
  have c6 := Lib.hid fun W (ho : Own [] W0 W) => bsessions_b0 H ho
  have c7 := Lib.hid fun W (ho : Own [] W0 W) => bretained_b0 H ho
  have c8 := Lib.hid fun W (ho : Own [] W0 W) => hosts_none W (H.own ho).sp
  have c9 := Lib.hid fun W (ho : Own [] W0 W) => bclock_b0 H ho
  have c10 := Lib.hid fun fv W => nvcontains_nil fv W
  replace ho := Lib.hid ho
  clear H
  go_enter Tryz.func18, Tryz.ntmps18
  go_wp2_with (first
    | (go_at_call 40; (with_reducible refine (c1.out _ ho.out).mono ?_); rintro e w2 ⟨rfl, rfl⟩)
    | (go_at_call 16; (with_reducible refine (c2.out _ ho.out).mono ?_); rintro e w2 ⟨rfl, rfl⟩)
    | (go_at_call 41; (with_reducible refine (c3.out _ ho.out).mono ?_); rintro e w2 ⟨rfl, hO⟩; replace ho := Lib.hid (ho.out.trans hO); clear hO)
    | (go_at_call 8; (with_reducible refine (c4.out _ ho.out).mono ?_); rintro e w2 ⟨rfl, rfl⟩)
    | (go_at_call 42; (with_reducible refine (c5.out _).mono ?_); rintro e w2 ⟨rfl, rfl⟩)
    | (go_at_call 13; (with_reducible refine (c6.out _ ho.out).mono ?_); rintro e w2 ⟨rfl, hO⟩; replace ho := Lib.hid hO; clear hO)
    | (go_at_call 11; (with_reducible refine (c7.out _ ho.out).mono ?_); rintro e w2 ⟨rfl, hO⟩; replace ho := Lib.hid hO; clear hO)
    | (go_at_call 43; (with_reducible refine (c8.out _ ho.out).mono ?_); rintro e w2 ⟨ha, hc, rfl, hO⟩; replace ho := Lib.hid (ho.out.trans hO); clear hO)
    | (go_at_call 7; (with_reducible refine (c9.out _ ho.out).mono ?_); rintro e w2 ⟨rfl, rfl⟩)
    | (go_at_call 44; (with_reducible refine (c10.out _ _).mono ?_); rintro e w2 ⟨rfl, rfl⟩))
  go_ret
  exact ⟨rfl, ho.out⟩
set_option maxRecDepth 100000 in
set_option maxHeartbeats 4000000 in
theorem wires_b0 (H : B0 W0 p se tr ke km du dq dm sp m h hm bb r) (ho : Own [] W0 W) : Calls Tryz.prog 19 #[Ptr p] W fun e w' => e = .returned (.int .i64 0) ∧ Own [] W0 w' := by
  have c1 := Lib.hid fun W (ho : Own [] W0 W) => anone_b0 H ho
  have c4 := Lib.hid fun W (ho : Own [] W0 W) => blinks_b0 H ho
  replace ho := Lib.hid ho
  clear H
  go_enter Tryz.func19, Tryz.ntmps19
  go_wp2_with (first
    | (go_at_call 40; (with_reducible refine (c1.out _ ho.out).mono ?_); rintro e w2 ⟨rfl, rfl⟩)
    | (go_at_call 8; (with_reducible refine (c4.out _ ho.out).mono ?_); rintro e w2 ⟨rfl, rfl⟩))
  refine wp_loop_rounds 1 ?_
  rw [rounds_succ]
  go_wp2_with fail
  go_ret
  exact ⟨rfl, ho.out⟩
set_option maxRecDepth 100000 in
set_option maxHeartbeats 4000000 in
theorem folds_b0 (H : B0 W0 p se tr ke km du dq dm sp m h hm bb r) (ho : Own [] W0 W) : Calls Tryz.prog 20 #[Ptr p] W fun e w' => e = .returned (.int .i64 0) ∧ Own [] W0 w' := by
  have c1 := Lib.hid fun W (ho : Own [] W0 W) => anone_b0 H ho
  have c2 := Lib.hid fun W (ho : Own [] W0 W) => bspark_b0 H ho
  have c3 := Lib.hid fun W (ho : Own [] W0 W) => nodes_none W (H.own ho).sp
  have c4 := Lib.hid fun W (ho : Own [] W0 W) => blog_b0 H ho
  have c5 := Lib.hid fun W => sparkNew2 W
  have c8 := Lib.hid fun W (ho : Own [] W0 W) => hosts_none W (H.own ho).sp
  have c9 := Lib.hid fun W (ho : Own [] W0 W) => born_none W (H.own ho).sp
  have e1 := Lib.hid fun fv W => nveq_nil fv W
  have e2 := Lib.hid fun a b c d W => hveq_nil a b c d W
  have e3 := Lib.hid fun W => bieq_nil W
  replace ho := Lib.hid ho
  clear H
  go_enter Tryz.func20, Tryz.ntmps20
  go_wp2_with (go_at_call 40; (with_reducible refine (c1.out _ ho.out).mono ?_); rintro e w2 ⟨rfl, rfl⟩)
  refine (c5.out _).mono ?_
  rintro e w3 ⟨q, qm, qh, qhm, qbb, qr, rfl, hN, hO, _, _, _⟩
  replace ho := Lib.hid (ho.out.trans hO)
  clear hO
  have n3 := Lib.hid fun W (hq : Own [] w3 W) => nodes_none W (hN.own hq)
  have n8 := Lib.hid fun W (hq : Own [] w3 W) => hosts_none W (hN.own hq)
  have n9 := Lib.hid fun W (hq : Own [] w3 W) => born_none W (hN.own hq)
  have hq : Hid (Own [] w3 w3) := Lib.hid (Own.refl _ _)
  clear hN
  go_wp2_with (go_at_call 9; (with_reducible refine (c4.out _ ho.out).mono ?_); rintro e w2 ⟨rfl, rfl⟩)
  refine wp_loop_rounds 1 ?_
  rw [rounds_succ]
  go_wp2_with (first
    | (go_at_call 16; (with_reducible refine (c2.out _ ho.out).mono ?_); rintro e w2 ⟨rfl, rfl⟩)
    | (go_at_call 41; first
        | ((with_reducible refine (c3.out _ ho.out).mono ?_); rintro e w2 ⟨rfl, hO⟩; replace ho := Lib.hid (ho.out.trans hO); replace hq := Lib.hid (hq.out.trans hO); clear hO)
        | ((with_reducible refine (n3.out _ hq.out).mono ?_); rintro e w2 ⟨rfl, hO⟩; replace ho := Lib.hid (ho.out.trans hO); replace hq := Lib.hid (hq.out.trans hO); clear hO))
    | (go_at_call 43; first
        | ((with_reducible refine (c8.out _ ho.out).mono ?_); rintro e w2 ⟨ha, hc, rfl, hO⟩; replace ho := Lib.hid (ho.out.trans hO); replace hq := Lib.hid (hq.out.trans hO); clear hO)
        | ((with_reducible refine (n8.out _ hq.out).mono ?_); rintro e w2 ⟨ha, hc, rfl, hO⟩; replace ho := Lib.hid (ho.out.trans hO); replace hq := Lib.hid (hq.out.trans hO); clear hO))
    | (go_at_call 54; first
        | ((with_reducible refine (c9.out _ ho.out).mono ?_); rintro e w2 ⟨rfl, rfl⟩)
        | ((with_reducible refine (n9.out _ hq.out).mono ?_); rintro e w2 ⟨rfl, rfl⟩))
    | (go_at_call 50; (with_reducible refine (e1.out _ _).mono ?_); rintro e w2 ⟨rfl, rfl⟩)
    | (go_at_call 52; (with_reducible refine (e2.out _ _ _ _ _).mono ?_); rintro e w2 ⟨rfl, rfl⟩)
    | (go_at_call 53; (with_reducible refine (e3.out _).mono ?_); rintro e w2 ⟨rfl, rfl⟩))
  go_ret
  exact ⟨rfl, ho.out⟩
set_option maxRecDepth 100000 in
set_option maxHeartbeats 4000000 in
theorem births_b0 (H : B0 W0 p se tr ke km du dq dm sp m h hm bb r) (ho : Own [] W0 W) : Calls Tryz.prog 21 #[Ptr p] W fun e w' => e = .returned (.int .i64 0) ∧ Own [] W0 w' := by
  have c1 := Lib.hid fun W (ho : Own [] W0 W) => anone_b0 H ho
  have c2 := Lib.hid fun W (ho : Own [] W0 W) => bspark_b0 H ho
  have c3 := Lib.hid fun W (ho : Own [] W0 W) => nodes_none W (H.own ho).sp
  have c5 := Lib.hid fun W => topics_nil W
  have c9 := Lib.hid fun W (ho : Own [] W0 W) => born_none W (H.own ho).sp
  replace ho := Lib.hid ho
  clear H
  go_enter Tryz.func21, Tryz.ntmps21
  go_wp2_with (first
    | (go_at_call 40; (with_reducible refine (c1.out _ ho.out).mono ?_); rintro e w2 ⟨rfl, rfl⟩)
    | (go_at_call 16; (with_reducible refine (c2.out _ ho.out).mono ?_); rintro e w2 ⟨rfl, rfl⟩)
    | (go_at_call 41; (with_reducible refine (c3.out _ ho.out).mono ?_); rintro e w2 ⟨rfl, hO⟩; replace ho := Lib.hid (ho.out.trans hO); clear hO)
    | (go_at_call 55; (with_reducible refine (c5.out _).mono ?_); rintro e w2 ⟨rfl, rfl⟩)
    | (go_at_call 54; (with_reducible refine (c9.out _ ho.out).mono ?_); rintro e w2 ⟨rfl, rfl⟩))
  refine wp_loop_rounds 1 ?_
  rw [rounds_succ]
  go_wp2_with fail
  go_ret
  exact ⟨rfl, ho.out⟩
set_option maxRecDepth 100000 in
set_option maxHeartbeats 4000000 in
theorem asks_b0 (H : B0 W0 p se tr ke km du dq dm sp m h hm bb r) (ho : Own [] W0 W) : Calls Tryz.prog 22 #[Ptr p] W fun e w' => e = .returned (.int .i64 0) ∧ Own [] W0 w' := by
  have c1 := Lib.hid fun W (ho : Own [] W0 W) => anone_b0 H ho
  have c2 := Lib.hid fun W (ho : Own [] W0 W) => basks_b0 H ho
  have c3 := Lib.hid fun W (ho : Own [] W0 W) => blog_b0 H ho
  replace ho := Lib.hid ho
  clear H
  go_enter Tryz.func22, Tryz.ntmps22
  go_wp2_with fail
  go_step3
  go_wp2_with (first
    | (go_at_call 40; (with_reducible refine (c1.out _ ho.out).mono ?_); rintro e w2 ⟨rfl, rfl⟩)
    | (go_at_call 10; (with_reducible refine (c2.out _ ho.out).mono ?_); rintro e w2 ⟨rfl, rfl⟩)
    | (go_at_call 9; (with_reducible refine (c3.out _ ho.out).mono ?_); rintro e w2 ⟨rfl, rfl⟩))
  go_step3
  go_wp2_with fail
  refine wp_loop_rounds 1 ?_
  rw [rounds_succ]
  go_wp2_with fail
  try rw [Exit.noGoto_ret]
  go_ret
  exact ⟨rfl, ho.out⟩
end
end Go.Proofs.YtacbahmmmndmbaaGreatDoor
