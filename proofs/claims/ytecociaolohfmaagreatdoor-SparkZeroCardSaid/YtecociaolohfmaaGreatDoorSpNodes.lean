/- A spark that knows one node (chapter 37): Nodes, Asked. -/
import Derived.Test.YtecociaolohfmaaGreatDoorSpKey
import Derived.Test.YtecociaolohfmaaGreatDoorSpEdge
import Derived.Test.YtecociaolohfmaaGreatDoorSpNone
set_option linter.unusedSimpArgs false
set_option linter.unusedVariables false
namespace Go.Proofs.YtecociaolohfmaaGreatDoor
open Go.RowKit

set_option maxRecDepth 100000 in
set_option maxHeartbeats 2000000 in
theorem nvins_one (a : Option Addr) (c : Nat) (fv : Value) (W : World) : Calls Tryz.prog 71 #[.slice a 1 c, .int .i64 0, .int .i64 1, fv] W fun e w' => e = .returned (.tuple #[]) ∧ W = w' := by
  go_enter Tryz.func71, Tryz.ntmps71
  go_wp2_with fail
  refine wp_loop_rounds 1 ?_
  rw [rounds_succ]
  go_wp2_with fail
  go_end0
  exact ⟨rfl, rfl⟩
set_option maxRecDepth 100000 in
set_option maxHeartbeats 2000000 in
theorem nvpdq_one (a : Option Addr) (c : Nat) (fv : Value) (n : Int) (W : World) : Calls Tryz.prog 36 #[.slice a 1 c, .int .i64 0, .int .i64 1, .int .i64 n, fv] W fun e w' => e = .returned (.tuple #[]) ∧ W = w' := by
  have H := Lib.hid (fun W => nvins_one a c fv W)
  go_enter Tryz.func36, Tryz.ntmps36
  go_wp2_with fail
  refine wp_loop_rounds 1 ?_
  rw [rounds_succ]
  go_wp2_with (go_at_call 71; refine (H.out _).mono ?_; rintro e w' ⟨rfl, rfl⟩)
  (try simp only [Exit.inBlock, Exit.then]); refine bodyPost_ret (results_none rfl _ _ _) rfl ?_
  exact ⟨rfl, rfl⟩
set_option maxRecDepth 100000 in
set_option maxHeartbeats 2000000 in
theorem nvsort_one (a : Option Addr) (c : Nat) (fv : Value) (W : World) : Calls Tryz.prog 15 #[.slice a 1 c, fv] W fun e w' => e = .returned (.tuple #[]) ∧ Own [] W w' := by
  have H := Lib.hid (fun n W => nvpdq_one a c fv n W)
  go_enter Tryz.func15, Tryz.ntmps15
  go_wp2_with (first | (go_at_call 36; refine (H.out _ _).mono ?_; rintro e w' ⟨rfl, rfl⟩) | go_in)
  go_end0
  exact ⟨rfl, Own.refl _ _⟩
structure NV where
  g : ByteArray
  n : ByteArray
  p : Bool
def nvEnc (x : NV) : List Value := [.string x.g, .string x.n, .bool false, .int .i64 0, .int .i64 0, .bool x.p, .slice none 0 0, .slice none 0 0]
theorem nvInfo : (Tryz.prog.info? 64).map (fun i => (i.zero, i.size, i.bytes)) = some (some (.agg #[.string ⟨#[]⟩, .string ⟨#[]⟩, .bool false, .int .i64 0, .int .i64 0, .bool false, .slice none 0 0, .slice none 0 0]), 8, 112) := by kernel_rfl
theorem nvElem : Elem Tryz.prog 37 64 nvEnc 8 112 where
  ut := Tryz.underlying37
  info := by obtain ⟨i, h1, h2, h3, h4⟩ := info_parts nvInfo; exact ⟨i, _, h1, h2, h3, h4, rfl⟩
  pos := by omega
  len := fun _ => rfl
  one x u hu := by simp only [nvEnc, List.mem_cons, List.not_mem_nil, or_false] at hu; rcases hu with rfl | rfl | rfl | rfl | rfl | rfl | rfl | rfl <;> rfl
set_option maxRecDepth 100000 in
set_option maxHeartbeats 4000000 in
theorem nodes_one {p m n rr a : Nat} {g nm : ByteArray} {pe : Bool} (W : World) (h0 : W.cell? ⟨p, 0, none⟩ = some (.map (some m))) (hM : MapS keyEnc W m [((g, nm), .pointer (some ⟨n, 0, none⟩))]) (hF : FEat W n rr a g nm pe) :
    Calls Tryz.prog 5 #[Ptr p] W fun e w' => (∃ a c, e = .returned (.slice a 1 c)) ∧ Own [] W w' := by
  have cN := Lib.hid (snone_no p m W h0)
  obtain ⟨w1, hr, hI, hO, _⟩ := hM.range (P := Tryz.prog) nodesT
  rcases hI.next (P := Tryz.prog) 0 with ⟨hn, _⟩ | ⟨r1, r2, q, w2, hrem, h1, hI2, hO2, hs2, hen⟩
  · simp at hn
  have hr12 : r1 = [] ∧ r2 = [] ∧ q = ((g, nm), .pointer (some ⟨n, 0, none⟩)) := by
    cases r1 with
    | nil =>
      simp at hrem
      exact ⟨rfl, hrem.2, hrem.1.symm⟩
    | cons x r1 => simp at hrem
  obtain ⟨rfl, rfl, rfl⟩ := hr12
  have hnx : ∀ ty, (Instr.next (.pointer (some ⟨W.heap.size, 0, none⟩)) false ty).run Tryz.prog w1 = .ok (.tuple #[.bool true, keyEnc (g, nm), .pointer (some ⟨n, 0, none⟩)]) w2 := fun ty => h1
  simp only [keyEnc] at hnx hen
  have hOw2 : Own [] W w2 := hO.trans' hO2 (by simp)
  have cV := Lib.hid (eview_fresh (hF.own hOw2))
  have hIn := Lib.hid fun W' (ho : Own [] w2 W') => (hI2.own ho (by simp) (by simp))
  have cS := Lib.hid fun a c fv W => nvsort_one a c fv W
  replace hOw2 := Lib.hid hOw2
  clear hrem h1 hI hI2 hO2 hM hF hO
  go_enter Tryz.func5, Tryz.ntmps5
  go_wp2_with (go_at_call 11; ((with_reducible refine cN.out.mono ?_); rintro e w2 ⟨rfl, rfl⟩))
  refine wp_loop_rounds 2 ?_
  rw [rounds_succ]
  go_wp2_with fail
  with_reducible refine cV.out.mono ?_
  rintro e w3 ⟨rfl, hO3⟩
  have hOb : Hid (Own [] (w3.alloc (.cells (nvEnc ⟨g, nm, pe⟩).toArray 64)) (w3.alloc (.cells (nvEnc ⟨g, nm, pe⟩).toArray 64))) := Lib.hid (Own.refl _ _)
  have hSb : Hid (Sl 64 nvEnc 8 (w3.alloc (.cells (nvEnc ⟨g, nm, pe⟩).toArray 64)).heap.size (w3.alloc (.cells (nvEnc ⟨g, nm, pe⟩).toArray 64)) (.slice none 0 0) ([] : List NV)) := Lib.hid (Sl.nil _ _ _)
  have hRb := Lib.hid (Reads.new (enc := nvEnc) (T := 64) w3 ⟨g, nm, pe⟩ 1)
  have hO4 := Lib.hid (hO3.alloc (.cells (nvEnc ⟨g, nm, pe⟩).toArray 64))
  clear hO3
  go_wp2_with (at_builtin; refine wpList_append_new rfl (.tmp 17) (.tmp 20) rfl nvElem hOb.out rfl hSb.out rfl hRb.out (by simp) (by simp [maxLen]) ?_; intro va w5 hS5 hO5 _ _; obtain ⟨a2, c2, rfl⟩ := hS5.sl; replace hO5 := Lib.hid hO5; clear hS5)
  have hO5' : Own [] w2 w5 := hO4.out.trans hO5.out
  rcases (hIn.out w5 hO5').next (P := Tryz.prog) 0 with ⟨_, hf⟩ | ⟨r1, r2, q, w6, hrem, _⟩
  · have hnf : ∀ ty, (Instr.next (.pointer (some ⟨W.heap.size, 0, none⟩)) false ty).run Tryz.prog w5 = .ok (.tuple #[.bool false]) w5 := fun ty => hf
    have hOe := Lib.hid (hOw2.out.trans hO5')
    clear hf hnx hen hIn hOb hSb hRb hO4 hO5 hO5' cV cN
    rw [rounds_succ]
    go_wp2_with (go_at_call 15; ((with_reducible refine (cS.out _ _ _ _).mono ?_); rintro e w7 ⟨rfl, hO7⟩; replace hO7 := Lib.hid hO7))
    go_ret
    exact ⟨⟨_, _, rfl⟩, hOe.out.trans hO7.out⟩
  · have := congrArg List.length hrem
    simp at this
set_option maxRecDepth 100000 in
theorem asked_one {p m : Nat} {h bb r : Value} {n : Int} (W : World) (hp : W.heap[p]? = some (.cells #[.map (some m), h, bb, r, .int .i64 n] 30 (0, 0))) :
    Calls Tryz.prog 9 #[Ptr p] W fun e w' => e = .returned (.int .i64 n) ∧ W = w' := by
  have h0 : W.cell? ⟨p, 0, none⟩ = some (.map (some m)) := by rw [cell_of_row _ _ _ _ _ _ hp]; rfl
  have h4 : W.cell? ⟨p, 4, none⟩ = some (.int .i64 n) := by rw [cell_of_row _ _ _ _ _ _ hp]; rfl
  have cN := Lib.hid (snone_no p m W h0)
  clear hp
  go_enter Tryz.func9, Tryz.ntmps9
  go_wp2_with (go_at_call 11; ((with_reducible refine cN.out.mono ?_); rintro e w2 ⟨rfl, rfl⟩))
  go_ret
  exact ⟨rfl, rfl⟩
end Go.Proofs.YtecociaolohfmaaGreatDoor
