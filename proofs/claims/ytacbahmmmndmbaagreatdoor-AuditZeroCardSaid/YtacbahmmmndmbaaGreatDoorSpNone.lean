/- Spark (chapter 37): what one that knows nothing tells. -/
import Derived.Test.YtacbahmmmndmbaaGreatDoorSpNew
import Derived.Test.YtacbahmmmndmbaaGreatDoorAudSort
import Derived.Test.YtacbahmmmndmbaaGreatDoorNew
import Derived.WalkSpells
import Derived.Deep.QuietTactic
import Derived.BigQuiet
import Derived.StillTailTactics
import Derived.Lib.SliceRun
set_option linter.unusedSimpArgs false
set_option linter.unusedVariables false
namespace Go.Proofs.YtacbahmmmndmbaaGreatDoor
open Go.RowKit

set_option maxRecDepth 100000 in
theorem snone_nil (W : World) : Calls Tryz.prog 84 #[.pointer none] W fun e w' => e = .returned (.bool true) ∧ W = w' := by
  go_enter Tryz.func84, Tryz.ntmps84
  go_wp2_with fail
  go_ret
  exact ⟨rfl, rfl⟩
set_option maxRecDepth 100000 in
theorem snone_zero (p : Nat) (W : World) (h : W.cell? ⟨p, 0, none⟩ = some (.map none)) : Calls Tryz.prog 84 #[Ptr p] W fun e w' => e = .returned (.bool true) ∧ W = w' := by
  have hq := fun w r => run_eql_map_nil (P := Tryz.prog) w 172 179 180 r Tryz.underlying172
  go_enter Tryz.func84, Tryz.ntmps84
  go_wp2_with fail
  go_ret
  exact ⟨rfl, rfl⟩
set_option maxRecDepth 100000 in
theorem snone_no (p m : Nat) (W : World) (h : W.cell? ⟨p, 0, none⟩ = some (.map (some m))) : Calls Tryz.prog 84 #[Ptr p] W fun e w' => e = .returned (.bool false) ∧ W = w' := by
  have hq := fun w r => run_eql_map_nil (P := Tryz.prog) w 172 179 180 r Tryz.underlying172
  go_enter Tryz.func84, Tryz.ntmps84
  go_wp2_with fail
  go_ret
  exact ⟨rfl, rfl⟩
theorem SN.c0 {w : World} {p m h hm bb r : Nat} (H : SN w p m h hm bb r) : w.cell? ⟨p, 0, none⟩ = some (.map (some m)) ∧ w.cell? ⟨p, 1, none⟩ = some (Ptr h) ∧ w.cell? ⟨p, 2, none⟩ = some (Ptr bb) ∧ w.cell? ⟨p, 3, none⟩ = some (Ptr r) ∧ w.cell? ⟨p, 4, none⟩ = some (.int .i64 0) :=
  ⟨by rw [cell_of_row _ _ _ _ _ _ H.sp]; rfl, by rw [cell_of_row _ _ _ _ _ _ H.sp]; rfl, by rw [cell_of_row _ _ _ _ _ _ H.sp]; rfl, by rw [cell_of_row _ _ _ _ _ _ H.sp]; rfl, by rw [cell_of_row _ _ _ _ _ _ H.sp]; rfl⟩
set_option maxRecDepth 100000 in
set_option maxHeartbeats 2000000 in
theorem nodes_none {p m h hm bb r : Nat} (W : World) (H : SN W p m h hm bb r) : Calls Tryz.prog 41 #[Ptr p] W fun e w' => e = .returned (.slice none 0 0) ∧ Own [] W w' := by
  obtain ⟨c0, _⟩ := H.c0
  have cN := Lib.hid (snone_no p m W c0)
  obtain ⟨w1, hr, hI, hO, _⟩ := H.nm.range (P := Tryz.prog) (t := 172) Tryz.underlying172
  have hnx : ∀ ty, (Instr.next (.pointer (some ⟨W.heap.size, 0, none⟩)) false ty).run Tryz.prog w1 = .ok (.tuple #[.bool false]) w1 := fun ty => by
    rcases hI.next (P := Tryz.prog) ty with ⟨_, h⟩ | ⟨r1, r2, q, w2, h, _⟩
    · exact h
    · simp at h
  have cS := Lib.hid (fun fv W => nvsort_nil none 0 fv W)
  replace hO := Lib.hid hO
  clear hI H
  go_enter Tryz.func41, Tryz.ntmps41
  go_wp2_with (go_at_call 84; ((with_reducible refine cN.out.mono ?_); rintro e w2 ⟨rfl, rfl⟩))
  refine wp_loop_rounds 1 ?_
  rw [rounds_succ]
  go_wp2_with (go_at_call 86; ((with_reducible refine (cS.out _ _).mono ?_); rintro e w2 ⟨rfl, rfl⟩))
  go_ret
  exact ⟨rfl, hO.out⟩
set_option maxRecDepth 100000 in
theorem hnone_no (h hm : Nat) (W : World) (c : W.cell? ⟨h, 8, none⟩ = some (.map (some hm))) : Calls Tryz.prog 149 #[Ptr h] W fun e w' => e = .returned (.bool false) ∧ W = w' := by
  have hq := fun w r => run_eql_map_nil (P := Tryz.prog) w 283 9 3 r Tryz.underlying283
  go_enter Tryz.func149, Tryz.ntmps149
  go_wp2_with fail
  go_ret
  exact ⟨rfl, rfl⟩
/-- A slice of no elements. -/
def EmptyP (W : World) (e : Ending) (w' : World) : Prop := ∃ a c, e = .returned (.slice a 0 c) ∧ Own [] W w'
theorem hvInfo : (Tryz.prog.info? 112).map (fun i => (i.zero, i.size, i.bytes)) = some (some (.agg #[.string ⟨#[]⟩, .bool false]), 2, 24) := by kernel_rfl
def hvEnc (x : ByteArray × Bool) : List Value := [.string x.1, .bool x.2]
theorem hvElem : Elem Tryz.prog 93 112 hvEnc 2 24 where
  ut := Tryz.underlying93
  info := by obtain ⟨i, h1, h2, h3, h4⟩ := info_parts hvInfo; exact ⟨i, _, h1, h2, h3, h4, rfl⟩
  pos := by omega
  len := fun _ => rfl
  one x u hu := by simp only [hvEnc, List.mem_cons, List.not_mem_nil, or_false] at hu; rcases hu with rfl | rfl <;> rfl
set_option maxRecDepth 100000 in
set_option maxHeartbeats 2000000 in
theorem hclone_none (b o c : Nat) (W : World) : Calls Tryz.prog 150 #[.slice (some ⟨b, o, none⟩) 0 c] W (EmptyP W) := by
  have hOb : Own [] W (W.alloc (.cells #[] 112)) := (Own.refl _ _).alloc _
  have hSb : Sl 112 hvEnc 2 W.heap.size (W.alloc (.cells #[] 112)) (.slice (some ⟨W.heap.size, 0, none⟩) 0 0) ([] : List (ByteArray × Bool)) := Sl.empty _ W
  have hRb : Reads hvEnc (W.alloc (.cells #[] 112)) (.slice (some ⟨b, o, none⟩) 0 c) ([] : List (ByteArray × Bool)) := .inr ⟨b, o, c, rfl, fun j u hu => by simp [rowOf] at hu⟩
  replace hOb := Lib.hid hOb
  replace hSb := Lib.hid hSb
  replace hRb := Lib.hid hRb
  have hq := fun w a n c => Lib.run_eql_slice_nil (P := Tryz.prog) w 93 112 a n c 0 0 Tryz.underlying93
  go_enter Tryz.func150, Tryz.ntmps150
  go_wp2_with (at_builtin; refine wpList_append_new rfl (.tmp 5) (.tmp 6) rfl hvElem hOb.out rfl hSb.out rfl hRb.out (by simp) (by simp [maxLen]) ?_; intro va w5 hS5 hO5 _ _; obtain ⟨a2, c2, rfl⟩ := hS5.sl; replace hO5 := Lib.hid hO5; clear hS5)
  go_ret
  exact ⟨_, _, rfl, hO5.out⟩
set_option maxRecDepth 100000 in
set_option maxHeartbeats 2000000 in
theorem hall_none (h hm : Nat) (W : World) (H : HostNone W h hm) : Calls Tryz.prog 89 #[Ptr h] W (EmptyP W) := by
  have c8 : W.cell? ⟨h, 8, none⟩ = some (.map (some hm)) := by rw [cell_of_row _ _ _ _ _ _ H.1]; rfl
  have c8d : W.drew.cell? ⟨h, 8, none⟩ = some (.map (some hm)) := c8
  have cN := Lib.hid (hnone_no h hm W c8)
  have cC := Lib.hid (fun c W => hclone_none h 0 c W)
  have cS := Lib.hid (fun a c fv W => hvsort_nil a c fv W)
  have hlen : ∀ ty, (Builtin.len_ #[283] ty #[.map (some hm)]).run Tryz.prog W.drew = .ok (.int .i64 0) W.drew := fun ty => (H.2.own (S := []) ((Own.refl [] W).drew) (by simp)).len_run (P := Tryz.prog) Tryz.underlying283 ty
  have hlen0 : ∀ ty, (Builtin.len_ #[283] ty #[.map (some hm)]).run Tryz.prog W = .ok (.int .i64 0) W := fun ty => H.2.len_run (P := Tryz.prog) Tryz.underlying283 ty
  have hsl : ∀ W, (Instr.sliceAt 282 (.pointer (some ⟨h, 0, none⟩)) none (some (.int .i64 0)) none).run Tryz.prog W = .ok (.slice (some ⟨h, 0, none⟩) 0 4) W := fun W => by kernel_rfl
  go_enter Tryz.func89, Tryz.ntmps89
  go_wp2_with (go_at_call 149; ((with_reducible refine cN.out.mono ?_); rintro e w2 ⟨rfl, rfl⟩))
  go_still_tail 9, (by kernel_rfl)
  change wpList _ _ _ _ _ W.drew
  go_wp2_with fail
  with_reducible refine (cC.out _ _).mono ?_
  rintro e w3 ⟨a1, k1, rfl, hO⟩
  replace hO := Lib.hid hO
  go_wp2_with (go_at_call 151; ((with_reducible refine (cS.out _ _ _ _).mono ?_); rintro e w2 ⟨rfl, rfl⟩))
  go_ret
  exact ⟨_, _, rfl, ((Own.refl [] W).drew).trans hO.out⟩
set_option maxRecDepth 100000 in
set_option maxHeartbeats 2000000 in
theorem hosts_none {p m h hm bb r : Nat} (W : World) (H : SN W p m h hm bb r) : Calls Tryz.prog 43 #[Ptr p] W (EmptyP W) := by
  obtain ⟨c0, c1, _⟩ := H.c0
  have c8 : W.cell? ⟨h, 8, none⟩ = some (.map (some hm)) := by rw [cell_of_row _ _ _ _ _ _ H.ho.1]; rfl
  have cN := Lib.hid (snone_no p m W c0)
  have cH := Lib.hid (hall_none h hm W H.ho)
  clear H
  go_enter Tryz.func43, Tryz.ntmps43
  go_wp2_with (first
    | (go_at_call 84; ((with_reducible refine cN.out.mono ?_); rintro e w2 ⟨rfl, rfl⟩))
    | (go_at_call 89; ((with_reducible refine cH.out.mono ?_); rintro e w2 ⟨a1, k1, rfl, hO⟩)))
  go_ret
  exact ⟨_, _, rfl, hO⟩
set_option maxRecDepth 100000 in
set_option maxHeartbeats 2000000 in
theorem born_none {p m h hm bb r : Nat} (W : World) (H : SN W p m h hm bb r) : Calls Tryz.prog 54 #[Ptr p] W fun e w' => e = .returned (.slice none 0 0) ∧ W = w' := by
  obtain ⟨c0, _, c2, _⟩ := H.c0
  have b0 : W.cell? ⟨bb, 0, none⟩ = some (.slice none 0 0) := by rw [cell_of_row _ _ _ _ _ _ H.bi]; rfl
  have b1 : W.cell? ⟨bb, 1, none⟩ = some (.bool true) := by rw [cell_of_row _ _ _ _ _ _ H.bi]; rfl
  have cN := Lib.hid (snone_no p m W c0)
  clear H
  go_enter Tryz.func54, Tryz.ntmps54
  go_wp2_with (first
    | (go_at_call 84; ((with_reducible refine cN.out.mono ?_); rintro e w2 ⟨rfl, rfl⟩))
    | go_in)
  refine wp_loop_rounds 1 ?_
  rw [rounds_succ]
  go_wp2_with fail
  go_ret
  exact ⟨rfl, rfl⟩
end Go.Proofs.YtacbahmmmndmbaaGreatDoor
