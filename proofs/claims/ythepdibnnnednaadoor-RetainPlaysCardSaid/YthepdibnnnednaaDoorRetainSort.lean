/- Package retain: slices.SortFunc over messages, by their topics. -/
import Derived.Test.YthepdibnnnednaaDoorRetain
import Derived.Test.YthepdibnnnednaaDoorNew
import Derived.Test.YthepdibnnnednaaDoorStrOrd
import Derived.Test.YthepdibnnnednaaDoorShelf
import Derived.StillTailTactics
namespace Go.Proofs.YthepdibnnnednaaDoor
open Go.RowKit Go.Sort Go.Lib Go.Shelf

theorem msCells_len (x : Ms) : (Ms.cells x).length = 4 := rfl
theorem msInfo : (Tryd.prog.info? 26).map (fun i => (i.zero, i.size, i.bytes)) = some (some (.agg #[.string ⟨#[]⟩, .string ⟨#[]⟩, .int .i64 0, .bool false]), 4, 48) := by kernel_rfl
theorem mElem : Elem Tryd.prog 22 26 Ms.cells 4 48 where
  ut := Tryd.underlying22
  info := by obtain ⟨i, h1, h2, h3, h4⟩ := info_parts msInfo; exact ⟨i, _, h1, h2, h3, h4, rfl⟩
  pos := by omega
  len := msCells_len
  one x u hu := by simp [Ms.cells] at hu; rcases hu with rfl | rfl | rfl | rfl <;> rfl
set_option maxRecDepth 100000 in
set_option maxHeartbeats 4000000 in
theorem mcmp_any (x y : Ms) (W : World) :
    Calls Tryd.prog 37 #[.agg (Ms.cells x).toArray, .agg (Ms.cells y).toArray] W fun e w' => e = .returned (.int .i64 (scmp x.top y.top)) ∧ ∃ q os', w' = grow (W.drewN q) os' := by
  obtain ⟨x1, x2, x3, x4⟩ := x
  obtain ⟨y1, y2, y3, y4⟩ := y
  unfold Ms.cells scmp sless
  have hw : ∃ q os', (W.alloc (.cells #[.string x1, .string x2, .int .i64 x3, .bool x4] 26)).alloc (.cells #[.string y1, .string y2, .int .i64 y3, .bool y4] 26) = grow (W.drewN q) os' := ⟨0, _, by rw [alloc_eq_grow, alloc_eq_grow, grow_grow]; rfl⟩
  replace hw := Lib.hid hw
  cases h1 : Op.bytesLess x1.toList y1.toList
  · cases h2 : (x1.toList == y1.toList)
    · simp only [Bool.false_eq_true, if_false]
      go_enter Tryd.func37, Tryd.ntmps37
      go_wp2_with go_in
      go_ret
      exact ⟨rfl, hw.out⟩
    · simp only [Bool.false_eq_true, if_false, if_true]
      go_enter Tryd.func37, Tryd.ntmps37
      go_wp2_with go_in
      go_ret
      exact ⟨rfl, hw.out⟩
  · simp only [if_true]
    go_enter Tryd.func37, Tryd.ntmps37
    go_wp2_with go_in
    go_ret
    exact ⟨rfl, hw.out⟩
set_option maxHeartbeats 2000000 in
theorem mins_nil (fv : Value) (W : World) : Calls Tryd.prog 57 #[.slice none 0 0, .int .i64 0, .int .i64 0, fv] W fun e w' => e = .returned (.tuple #[]) ∧ w' = W := by
  go_enter Tryd.func57, Tryd.ntmps57
  go_wp2_with fail
  refine wp_loop_rounds 1 ?_
  rw [rounds_succ]
  go_wp2_with fail
  go_end0
  exact ⟨rfl, rfl⟩
set_option maxHeartbeats 2000000 in
theorem mpdq_nil (fv : Value) (n : Int) (W : World) : Calls Tryd.prog 48 #[.slice none 0 0, .int .i64 0, .int .i64 0, .int .i64 n, fv] W fun e w' => e = .returned (.tuple #[]) ∧ w' = W := by
  have H := Lib.hid (fun W => mins_nil fv W)
  go_enter Tryd.func48, Tryd.ntmps48
  go_wp2_with fail
  refine wp_loop_rounds 1 ?_
  rw [rounds_succ]
  go_wp2_with (go_at_call 57; refine (H.out _).mono ?_; rintro e w' ⟨rfl, rfl⟩)
  (try simp only [Exit.inBlock, Exit.then]); refine bodyPost_ret (results_none rfl _ _ _) rfl ?_
  exact ⟨rfl, rfl⟩
set_option maxRecDepth 100000 in
set_option maxHeartbeats 4000000 in
theorem msort_nil (fv : Value) (W : World) : Calls Tryd.prog 36 #[.slice none 0 0, fv] W fun e w' => e = .returned (.tuple #[]) ∧ w' = W := by
  have H := Lib.hid (fun n W => mpdq_nil fv n W)
  go_enter Tryd.func36, Tryd.ntmps36
  go_wp2_with (first | (go_at_call 48; refine (H.out _ _).mono ?_; rintro e w' ⟨rfl, rfl⟩) | go_in)
  go_end0
  exact ⟨rfl, rfl⟩
theorem sort_msgs {base : Nat} {w : World} {v : Value} {l : List Ms} (h : Sl 26 Ms.cells 4 base w v l) (hl : l.length < 4611686018427387904) :
    Calls Tryd.prog 36 #[v, .func (.func 37) #[] #[]] w fun e w' =>
      e = .returned (.tuple #[]) ∧ ∃ l', l'.Perm l ∧ l'.Pairwise (fun x y => sless y.top x.top = false) ∧ Sl 26 Ms.cells 4 base w' v l' ∧ Own v.ownBlock.toList w w' := by
  rcases h.form with ⟨rfl, rfl⟩ | ⟨g, cap, rfl, hg, hR⟩
  · refine (msort_nil _ w).mono ?_
    rintro e w' ⟨he, rfl⟩
    exact ⟨he, [], List.Perm.refl _, List.Pairwise.nil, h, Own.refl _ _⟩
  · have eg : ∀ args w, (callFunc 37 args).run Tryd.prog w = .ok (.enter 37 args) w := enters_of Tryd.func37 (by kernel_rfl) rfl
    refine (sort_row Tryd.sortMsgs (by intro w; kernel_rfl) (by intro w; kernel_rfl) msCells_len (fun x v hv => mElem.one x v hv) (fun (x y : Ms) => scmp x.top y.top) (scmp_order (α := Ms) (·.top)) 37 eg mcmp_any hR hl).mono ?_
    rintro e w' ⟨he, l', h1, h2, h3, h4⟩
    refine ⟨he, l', h1, h2.imp ?_, ?_, by simpa [Value.ownBlock] using h4⟩
    · intro x y hxy
      rwa [ltOf_scmp (α := Ms) (·.top)] at hxy
    · rw [← h1.length_eq]
      exact Sl.of_row h3 msCells_len hg
end Go.Proofs.YthepdibnnnednaaDoor
