/- What audit finds at a broker that was just made. -/
import Derived.Test.YtacbahmmmndmbaaGreatDoorBkNone
import Derived.Test.YtacbahmmmndmbaaGreatDoorBkSess
import Derived.Laws.EntriesVeiled
set_option linter.unusedSimpArgs false
set_option linter.unusedVariables false
namespace Go.Proofs.YtacbahmmmndmbaaGreatDoor
open Go.RowKit

abbrev B0 (W : World) (p se tr ke km du dq dm sp m h hm bb r : Nat) : Prop := BN (fun _ _ => True) W p se tr ke km du dq dm sp m h hm bb r
section
variable {W0 W : World} {p se tr ke km du dq dm sp m h hm bb r : Nat}
theorem B0.own (H : B0 W0 p se tr ke km du dq dm sp m h hm bb r) (ho : Own [] W0 W) : B0 W p se tr ke km du dq dm sp m h hm bb r := BN.own (fun _ _ _ _ _ => trivial) H ho
theorem B0.cells (H : B0 W0 p se tr ke km du dq dm sp m h hm bb r) : W0.cell? ⟨p, 24, none⟩ = some (.slice none 0 0) ∧ W0.cell? ⟨p, 25, none⟩ = some (Ptr se) ∧ W0.cell? ⟨p, 27, none⟩ = some (Ptr ke) ∧ W0.cell? ⟨p, 29, none⟩ = some (Ptr sp) ∧ W0.cell? ⟨p, 30, none⟩ = some (.int .i64 0) ∧ W0.cell? ⟨p, 31, none⟩ = some (.slice none 0 0) ∧ W0.cell? ⟨p, 32, none⟩ = some (.slice none 0 0) :=
  ⟨by rw [cell_of_row _ _ _ _ _ _ H.bp]; rfl, by rw [cell_of_row _ _ _ _ _ _ H.bp]; rfl, by rw [cell_of_row _ _ _ _ _ _ H.bp]; rfl, by rw [cell_of_row _ _ _ _ _ _ H.bp]; rfl, by rw [cell_of_row _ _ _ _ _ _ H.bp]; rfl, by rw [cell_of_row _ _ _ _ _ _ H.bp]; rfl, by rw [cell_of_row _ _ _ _ _ _ H.bp]; rfl⟩
set_option maxRecDepth 100000 in
theorem bspark_b0 (H : B0 W0 p se tr ke km du dq dm sp m h hm bb r) (ho : Own [] W0 W) : Calls Tryz.prog 16 #[Ptr p] W fun e w' => e = .returned (Ptr sp) ∧ W = w' := by
  obtain ⟨c24, c25, c27, c29, c30, c31, c32⟩ := (H.own ho).cells
  have c := Lib.hid (bnone_no p se W c25)
  clear H ho
  go_enter Tryz.func16, Tryz.ntmps16
  go_wp2_with (go_at_call 25; (with_reducible refine c.out.mono ?_); rintro e w2 ⟨rfl, rfl⟩)
  go_ret
  exact ⟨rfl, rfl⟩
set_option maxRecDepth 100000 in
theorem anone_b0 (H : B0 W0 p se tr ke km du dq dm sp m h hm bb r) (ho : Own [] W0 W) : Calls Tryz.prog 40 #[Ptr p] W fun e w' => e = .returned (.bool false) ∧ W = w' := by
  have c := Lib.hid (bspark_b0 H ho)
  clear H ho
  go_enter Tryz.func40, Tryz.ntmps40
  go_wp2_with (go_at_call 16; (with_reducible refine c.out.mono ?_); rintro e w2 ⟨rfl, rfl⟩)
  go_ret
  exact ⟨rfl, rfl⟩
set_option maxRecDepth 100000 in
theorem blinks_b0 (H : B0 W0 p se tr ke km du dq dm sp m h hm bb r) (ho : Own [] W0 W) : Calls Tryz.prog 8 #[Ptr p] W fun e w' => e = .returned (.slice none 0 0) ∧ W = w' := by
  obtain ⟨c24, c25, c27, c29, c30, c31, c32⟩ := (H.own ho).cells
  have c := Lib.hid (bnone_no p se W c25)
  clear H ho
  go_enter Tryz.func8, Tryz.ntmps8
  go_wp2_with (go_at_call 25; (with_reducible refine c.out.mono ?_); rintro e w2 ⟨rfl, rfl⟩)
  refine wp_loop_rounds 1 ?_
  rw [rounds_succ]
  go_wp2_with fail
  go_ret
  exact ⟨rfl, rfl⟩
set_option maxRecDepth 100000 in
theorem bclock_b0 (H : B0 W0 p se tr ke km du dq dm sp m h hm bb r) (ho : Own [] W0 W) : Calls Tryz.prog 7 #[Ptr p] W fun e w' => e = .returned (.int .i64 0) ∧ W = w' := by
  obtain ⟨c24, c25, c27, c29, c30, c31, c32⟩ := (H.own ho).cells
  have c := Lib.hid (bnone_no p se W c25)
  clear H ho
  go_enter Tryz.func7, Tryz.ntmps7
  go_wp2_with (go_at_call 25; (with_reducible refine c.out.mono ?_); rintro e w2 ⟨rfl, rfl⟩)
  go_ret
  exact ⟨rfl, rfl⟩
set_option maxRecDepth 100000 in
theorem eclone_nil (W : World) : Calls Tryz.prog 31 #[.slice none 0 0] W fun e w' => e = .returned (.slice none 0 0) ∧ W = w' := by
  have hq := fun w a n c => Lib.run_eql_slice_nil (P := Tryz.prog) w 35 72 a n c 0 0 Tryz.underlying35
  go_enter Tryz.func31, Tryz.ntmps31
  go_wp2_with fail
  go_ret
  exact ⟨rfl, rfl⟩
set_option maxRecDepth 100000 in
theorem aclone_nil (W : World) : Calls Tryz.prog 32 #[.slice none 0 0] W fun e w' => e = .returned (.slice none 0 0) ∧ W = w' := by
  have hq := fun w a n c => Lib.run_eql_slice_nil (P := Tryz.prog) w 36 75 a n c 0 0 Tryz.underlying36
  go_enter Tryz.func32, Tryz.ntmps32
  go_wp2_with fail
  go_ret
  exact ⟨rfl, rfl⟩
set_option maxRecDepth 100000 in
theorem blog_b0 (H : B0 W0 p se tr ke km du dq dm sp m h hm bb r) (ho : Own [] W0 W) : Calls Tryz.prog 9 #[Ptr p] W fun e w' => e = .returned (.slice none 0 0) ∧ W = w' := by
  obtain ⟨c24, c25, c27, c29, c30, c31, c32⟩ := (H.own ho).cells
  have c := Lib.hid (bnone_no p se W c25)
  have c2 := Lib.hid (eclone_nil W)
  clear H ho
  go_enter Tryz.func9, Tryz.ntmps9
  go_wp2_with (first
    | (go_at_call 25; (with_reducible refine c.out.mono ?_); rintro e w2 ⟨rfl, rfl⟩)
    | (go_at_call 31; (with_reducible refine c2.out.mono ?_); rintro e w2 ⟨rfl, rfl⟩))
  go_ret
  exact ⟨rfl, rfl⟩
set_option maxRecDepth 100000 in
theorem basks_b0 (H : B0 W0 p se tr ke km du dq dm sp m h hm bb r) (ho : Own [] W0 W) : Calls Tryz.prog 10 #[Ptr p] W fun e w' => e = .returned (.slice none 0 0) ∧ W = w' := by
  obtain ⟨c24, c25, c27, c29, c30, c31, c32⟩ := (H.own ho).cells
  have c := Lib.hid (bnone_no p se W c25)
  have c2 := Lib.hid (aclone_nil W)
  clear H ho
  go_enter Tryz.func10, Tryz.ntmps10
  go_wp2_with (first
    | (go_at_call 25; (with_reducible refine c.out.mono ?_); rintro e w2 ⟨rfl, rfl⟩)
    | (go_at_call 32; (with_reducible refine c2.out.mono ?_); rintro e w2 ⟨rfl, rfl⟩))
  go_ret
  exact ⟨rfl, rfl⟩
set_option maxRecDepth 100000 in
/-- What stays: nothing. -/
theorem those_none (fv : Value) (W : World) (hk : W.heap[ke]? = some (.cells #[.map (some km)] 242 (0, 0))) (hm' : MapS Value.string W km []) : Calls Tryz.prog 64 #[Ptr ke, fv] W fun e w' => e = .returned (.slice none 0 0) ∧ Own [] W w' := by
  have c0 : W.cell? ⟨ke, 0, none⟩ = some (.map (some km)) := by rw [cell_of_row _ _ _ _ _ _ hk]; rfl
  have hq := fun w r => run_eql_map_nil (P := Tryz.prog) w 240 9 70 r Tryz.underlying240
  obtain ⟨w1, hr, hI, hO, _⟩ := hm'.range (P := Tryz.prog) (t := 240) Tryz.underlying240
  have hnx : ∀ ty, (Instr.next (.pointer (some ⟨W.heap.size, 0, none⟩)) false ty).run Tryz.prog w1 = .ok (.tuple #[.bool false]) w1 := fun ty => by
    rcases hI.next (P := Tryz.prog) ty with ⟨_, h⟩ | ⟨r1, r2, q, w2, h, _⟩
    · exact h
    · simp at h
  have cS := Lib.hid (fun fv W => mssort_nil none 0 fv W)
  replace hO := Lib.hid hO
  clear hI hk hm'
  go_enter Tryz.func64, Tryz.ntmps64
  go_wp2_with (go_at_call 119; go_in)
  refine wp_loop_rounds 1 ?_
  rw [rounds_succ]
  go_wp2_with (go_at_call 120; ((with_reducible refine (cS.out _ _).mono ?_); rintro e w2 ⟨rfl, rfl⟩))
  go_ret
  exact ⟨rfl, hO.out⟩
set_option maxRecDepth 100000 in
theorem bretained_b0 (H : B0 W0 p se tr ke km du dq dm sp m h hm bb r) (ho : Own [] W0 W) : Calls Tryz.prog 11 #[Ptr p] W fun e w' => e = .returned (.slice none 0 0) ∧ Own [] W0 w' := by
  obtain ⟨c24, c25, c27, c29, c30, c31, c32⟩ := (H.own ho).cells
  have c := Lib.hid (bnone_no p se W c25)
  have c2 := Lib.hid (fun fv => those_none fv W (H.own ho).ke (H.own ho).km)
  replace ho := Lib.hid ho
  clear H
  go_enter Tryz.func11, Tryz.ntmps11
  go_wp2_with (first
    | (go_at_call 25; (with_reducible refine c.out.mono ?_); rintro e w2 ⟨rfl, rfl⟩)
    | (go_at_call 64; (with_reducible refine (c2.out _).mono ?_); rintro e w2 ⟨rfl, hO⟩; replace hO := Lib.hid hO)
    | go_in)
  go_ret
  exact ⟨rfl, ho.out.trans hO.out⟩
set_option maxRecDepth 100000 in
theorem bsessions_b0 (H : B0 W0 p se tr ke km du dq dm sp m h hm bb r) (ho : Own [] W0 W) : Calls Tryz.prog 13 #[Ptr p] W fun e w' => e = .returned (.int .i64 0) ∧ Own [] W0 w' := by
  obtain ⟨c24, c25, c27, c29, c30, c31, c32⟩ := (H.own ho).cells
  have c := Lib.hid (bnone_no p se W c25)
  have c2 := Lib.hid (sall_none se W (H.own ho).ss)
  replace ho := Lib.hid ho
  clear H
  go_enter Tryz.func13, Tryz.ntmps13
  go_wp2_with (first
    | (go_at_call 25; (with_reducible refine c.out.mono ?_); rintro e w2 ⟨rfl, rfl⟩)
    | (go_at_call 75; (with_reducible refine c2.out.mono ?_); rintro e w2 ⟨rfl, hO⟩; replace hO := Lib.hid hO)
    | go_in)
  go_ret
  exact ⟨rfl, ho.out.trans hO.out⟩
end
end Go.Proofs.YtacbahmmmndmbaaGreatDoor
