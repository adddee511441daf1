/- All: the hosts that are known, rising by their names. -/
import Derived.Test.YtnodacfhkgkliaaHost
import Derived.Test.YtnodacfhkgkliaaStrOrd
import Derived.Test.YtnodacfhkgkliaaShelf
import Derived.StillTailTactics
namespace Go.Proofs.Ytnodacfhkgkliaa
open Go.RowKit Go.Sort Go.Lib Go.Shelf

def hEnc (x : ByteArray × Bool) : List Value := [.string x.1, .bool x.2]
theorem hEnc_len (x : ByteArray × Bool) : (hEnc x).length = 2 := rfl

set_option maxRecDepth 100000 in
set_option maxHeartbeats 4000000 in
theorem cmp_any (x y : ByteArray × Bool) (W : World) :
    Calls Try.prog 17 #[.agg (hEnc x).toArray, .agg (hEnc y).toArray] W fun e w' => e = .returned (.int .i64 (scmp x.1 y.1)) ∧ ∃ q os', w' = grow (W.drewN q) os' := by
  obtain ⟨x1, x2⟩ := x
  obtain ⟨y1, y2⟩ := y
  unfold hEnc scmp sless
  have hw : ∃ q os', (W.alloc (.cells #[.string x1, .bool x2] 39)).alloc (.cells #[.string y1, .bool y2] 39) = grow (W.drewN q) os' := ⟨0, _, by rw [alloc_eq_grow, alloc_eq_grow, grow_grow]; rfl⟩
  replace hw := Lib.hid hw
  cases h1 : Op.bytesLess x1.toList y1.toList
  · cases h2 : (x1.toList == y1.toList)
    · simp only [Bool.false_eq_true, if_false]
      go_enter Try.func17, Try.ntmps17
      go_wp2_with go_in
      go_ret
      exact ⟨rfl, hw.out⟩
    · simp only [Bool.false_eq_true, if_false, if_true]
      go_enter Try.func17, Try.ntmps17
      go_wp2_with go_in
      go_ret
      exact ⟨rfl, hw.out⟩
  · simp only [if_true]
    go_enter Try.func17, Try.ntmps17
    go_wp2_with go_in
    go_ret
    exact ⟨rfl, hw.out⟩

theorem sort_hosts {w : World} {g cap : Nat} {l : List (ByteArray × Bool)} (h : Row 39 hEnc 2 w g cap l) (hl : l.length < 4611686018427387904) :
    Calls Try.prog 16 #[.slice (some ⟨g, 0, none⟩) l.length cap, .func (.func 17) #[] #[]] w fun e w' =>
      e = .returned (.tuple #[]) ∧ ∃ l', l'.Perm l ∧ l'.Pairwise (fun x y => sless y.1 x.1 = false) ∧ Row 39 hEnc 2 w' g cap l' ∧ Own [g] w w' := by
  have eg : ∀ args w, (callFunc 17 args).run Try.prog w = .ok (.enter 17 args) w := enters_of Try.func17 (by kernel_rfl) rfl
  refine (sort_row Try.sortHosts (by intro w; kernel_rfl) (by intro w; kernel_rfl) hEnc_len (fun x v hv => by simp [hEnc] at hv; rcases hv with rfl | rfl <;> rfl) (fun (x y : ByteArray × Bool) => scmp x.1 y.1) (scmp_order (α := ByteArray × Bool) (·.1)) 17 eg cmp_any h hl).mono ?_
  rintro e w' ⟨he, l', h1, h2, h3, h4⟩
  refine ⟨he, l', h1, h2.imp ?_, h3, h4⟩
  intro x y hxy
  rwa [ltOf_scmp (α := ByteArray × Bool) (·.1)] at hxy

theorem viewInfo : (Try.prog.info? 39).map (fun i => (i.zero, i.size, i.bytes)) = some (some (.agg #[.string ⟨#[]⟩, .bool false]), 2, 24) := by kernel_rfl
theorem hEnc_one (l : List (ByteArray × Bool)) : ∀ u ∈ rowOf hEnc l, u.oneCell' = true := by
  intro u hu
  simp only [rowOf, List.mem_flatMap] at hu
  obtain ⟨x, _, hx⟩ := hu
  simp [hEnc] at hx
  rcases hx with rfl | rfl <;> rfl
set_option maxRecDepth 100000 in
set_option maxHeartbeats 4000000 in
theorem clone_any (b : Nat) (st : HSt) (w : World) (hb : b < w.heap.size) (hl : st.length ≤ 4) (hc : ∀ j u, (rowOf hEnc st)[j]? = some u → w.cell? ⟨b, j, none⟩ = some u) :
    Calls Try.prog 15 #[.slice (some ⟨b, 0, none⟩) st.length 4] w fun e w' =>
      ∃ g cap, e = .returned (.slice (some ⟨g, 0, none⟩) st.length cap) ∧ Row 39 hEnc 2 w' g cap st ∧ w.heap.size ≤ g ∧ Own [] w w' := by
  obtain ⟨i0, hi, hz0, hz1, hz2⟩ := info_parts viewInfo
  have hown := owns_empty (T := 39) (k := 2) w
  have hA : Own [] w (w.alloc (.cells #[] 39)) := (Own.refl _ _).alloc _
  have hnews : ∀ j u, (rowOf hEnc st)[j]? = some u → (w.alloc (.cells #[] 39)).cell? ((⟨b, 0, none⟩ : Addr).add j) = some u := fun j u hu => by
    rw [add_zero, hA.cell hb (by simp)]; exact hc j u hu
  have hlen := rowOf_len hEnc_len st
  have h1 := hEnc_one st
  generalize hxs : rowOf hEnc st = xs at hnews hlen h1
  replace hown := Lib.hid hown
  replace hA := Lib.hid hA
  replace hnews := Lib.hid hnews
  replace hlen := Lib.hid hlen
  replace h1 := Lib.hid h1
  replace hxs := Lib.hid hxs
  clear hc
  have hq : (binOp .eql 34 (.slice (some ⟨b, 0, none⟩) st.length 4) (.slice none 0 0)).run Try.prog w = .ok (.bool false) w := by kernel_rfl
  go_enter Try.func15, Try.ntmps15
  go_wp2_with (at_builtin; refine wpList_append_own_at _ rfl (.tmp 5) (.tmp 6) 34 rfl 0 39 i0 _ 2 24 Try.underlying34 hi hz0 hz1 hz2 rfl (by omega) (.slice (some ⟨w.heap.size, 0, none⟩) 0 0) 0 [] rfl hown.out ⟨b, 0, none⟩ st.length 4 xs rfl hlen.out hnews.out h1.out (by unfold maxLen; omega) (by omega) (Nat.zero_le _) ?_; intro v' w3 hown2 hgrow hnil hat)
  go_ret
  have hv : v' ≠ .slice none 0 0 := fun e => by have := (hnil.1 e).1; simp at this
  rw [Nat.zero_add, List.nil_append, ← hxs.out] at hown2
  obtain ⟨g, cap, rfl, hR⟩ := owned_row hown2 rfl hv
  have hO := hA.out.trans' (grown_own hgrow rfl) (fun z hz => by simp at hz; right; omega)
  refine ⟨g, cap, rfl, hR, ?_, hO⟩
  simp [Value.ownBlock] at hat
  omega

theorem view_slice (b n : Nat) (h : n ≤ 4) (W : World) : (Instr.sliceAt 41 (.pointer (some ⟨b, 0, none⟩)) none (some (.int .i64 (n : Int))) none).run Try.prog W = .ok (.slice (some ⟨b, 0, none⟩) n 4) W := by
  have h0 : (Instr.sliceAt 41 (.pointer (some ⟨b, 0, none⟩)) none (some (.int .i64 ((0 : Nat) : Int))) none).run Try.prog W = .ok (.slice (some ⟨b, 0, none⟩) 0 4) W := by kernel_rfl
  have h1 : (Instr.sliceAt 41 (.pointer (some ⟨b, 0, none⟩)) none (some (.int .i64 ((1 : Nat) : Int))) none).run Try.prog W = .ok (.slice (some ⟨b, 0, none⟩) 1 4) W := by kernel_rfl
  have h2 : (Instr.sliceAt 41 (.pointer (some ⟨b, 0, none⟩)) none (some (.int .i64 ((2 : Nat) : Int))) none).run Try.prog W = .ok (.slice (some ⟨b, 0, none⟩) 2 4) W := by kernel_rfl
  have h3 : (Instr.sliceAt 41 (.pointer (some ⟨b, 0, none⟩)) none (some (.int .i64 ((3 : Nat) : Int))) none).run Try.prog W = .ok (.slice (some ⟨b, 0, none⟩) 3 4) W := by kernel_rfl
  have h4 : (Instr.sliceAt 41 (.pointer (some ⟨b, 0, none⟩)) none (some (.int .i64 ((4 : Nat) : Int))) none).run Try.prog W = .ok (.slice (some ⟨b, 0, none⟩) 4 4) W := by kernel_rfl
  have h5 : n = 0 ∨ n = 1 ∨ n = 2 ∨ n = 3 ∨ n = 4 := by omega
  rcases h5 with rfl | rfl | rfl | rfl | rfl
  · exact h0
  · exact h1
  · exact h2
  · exact h3
  · exact h4
/-- What All hands back. -/
def AllPost (st : HSt) (w : World) (e : Ending) (w' : World) : Prop :=
  ∃ g cap l, e = .returned (.slice (some ⟨g, 0, none⟩) st.length cap) ∧ l.Perm st ∧ l.Pairwise (fun x y => sless y.1 x.1 = false) ∧ Row 39 hEnc 2 w' g cap l ∧ w.heap.size ≤ g ∧ Own [] w w'
set_option maxRecDepth 100000 in
set_option maxHeartbeats 4000000 in
theorem all_any (b m : Nat) (st : HSt) (w : World) (h : Host w b m st) :
    Calls Try.prog 13 #[.pointer (some ⟨b, 0, none⟩)] w (AllPost st w) := by
  obtain ⟨c, h3, h4, h5, h6⟩ := h.row
  have hm : w.cell? ⟨b, 8, none⟩ = some (.map (some m)) := (cell_of_row w b 8 c _ _ h3).trans h5
  have hlen := h.map.len_run (P := Try.prog) Try.underlying42
  rw [hIdx_len] at hlen
  have hl := h.len
  have hb := lt_of_heap h3
  have hc : ∀ j u, (rowOf hEnc st)[j]? = some u → w.cell? ⟨b, j, none⟩ = some u := fun j u hu => by
    have hj : j < st.length * 2 := by rw [← rowOf_len hEnc_len]; exact (List.getElem?_eq_some_iff.1 hu).1
    have hi : j / 2 < st.length := by omega
    have e := rowOf_get hEnc_len st (j / 2) (j % 2) st[j / 2] (List.getElem?_eq_getElem hi) (by omega)
    rw [Nat.div_add_mod' j 2, hu] at e
    have h7 := h6 (j / 2) (by omega)
    have hat : hAt st (j / 2) = st[j / 2] := by simp [hAt, List.getD, hi]
    rw [hat] at h7
    rw [cell_of_row w b j c _ _ h3]
    rcases Nat.mod_two_eq_zero_or_one j with h0 | h1
    · rw [h0] at e
      rw [show j = 2 * (j / 2) by omega, h7.1, e]
      simp [hEnc]
    · rw [h1] at e
      rw [show j = 2 * (j / 2) + 1 by omega, h7.2, e]
      simp [hEnc]
  have C := Lib.hid (fun w1 (ho : Own [] w w1) => clone_any b st w1 (Nat.lt_of_lt_of_le hb ho.size) hl (fun j u hu => (ho.cell hb (by simp)).trans (hc j u hu)))
  have hlen2 := fun w1 (ho : Own [] w w1) => ((h.own ho (by simp) (by simp)).map.len_run (P := Try.prog) Try.underlying42)
  simp only [hIdx_len] at hlen2
  have hlenD := hlen2 w.drew (Own.refl _ _).drew
  clear h h3 h4 h5 h6 hc hlen2
  go_enter Try.func13, Try.ntmps13
  go_wp2_with (go_at_call 14; refine (none_no b m _ hm).mono ?_; rintro e w' ⟨rfl, rfl⟩)
  have hsl := view_slice b st.length hl
  go_still_tail 9, (by kernel_rfl)
  change wpList _ _ _ _ _ w.drew
  go_wp2_with fail
  refine (C.out _ (Own.refl _ _).drew).mono ?_
  rintro e w1 ⟨g, cap, rfl, hR, hg, hO⟩
  have S := Lib.hid (sort_hosts hR (by omega))
  clear hR
  go_wp2_with fail
  refine S.out.mono ?_
  rintro e w2 ⟨rfl, l, hp, hs, hR2, hO2⟩
  have F : Aside (l.Perm st ∧ l.Pairwise (fun x y => sless y.1 x.1 = false) ∧ Row 39 hEnc 2 w2 g cap l ∧ w.heap.size ≤ g ∧ Own [] w w2) :=
    ⟨hp, hs, hR2, hg, ((Own.refl [] w).drew.trans hO).trans' hO2 (fun z hz => by simp at hz; right; subst hz; exact hg)⟩
  clear S hp hs hR2 hO hO2
  go_wp2_with fail
  go_ret
  exact ⟨g, cap, l, rfl, F.out⟩
end Go.Proofs.Ytnodacfhkgkliaa
