/- The document's hosts: Take where none is known yet; Take at all. -/
import Derived.Test.YtnodacfhkgkliaaHostRef
namespace Go.Proofs.Ytnodacfhkgkliaa
open Go.RowKit Go.Sort Go.Lib

theorem append_nil_any (W : World) (H n c : Nat) (h : n ≤ c) (ty : TypeId) : (Builtin.append_ #[34, 34] ty #[.slice (some ⟨H, 0, none⟩) n c, .slice none 0 0]).run Try.prog W = .ok (.slice (some ⟨H, 0, none⟩) n c) W := by
  obtain ⟨i0, hi, _, hz1, _⟩ := info_parts viewInfo
  exact run_append_nothing W _ _ ty _ i0 Try.underlying34 hi _ n c h _ (Src.ofNil W Try.underlying34 0)

theorem nil_end {xb g2 cap2 : Nat} {w w4 : World} {n : ByteArray} {on : Bool} (hrow : w.heap[xb]? = some (.cells #[.slice none 0 0] 36 (0, 0))) (hO : Own [] w w4) (hR : Row 39 hEnc 2 w4 g2 cap2 [(n, on)]) (hge : w.heap.size ≤ g2) :
    RefPost w xb (.slice none 0 0) (1, [(n, on)]) (.returned (.int .i64 1)) (w4.setCell ⟨xb, 0, none⟩ (.slice (some ⟨g2, 0, none⟩) 1 cap2)) := by
  have hxl := lt_of_heap hrow
  have hne : g2 ≠ xb := by omega
  have hO2 : Own [xb] w4 (w4.setCell ⟨xb, 0, none⟩ (.slice (some ⟨g2, 0, none⟩) 1 cap2)) := (Own.refl _ _).setCell (by simp) _
  exact ⟨rfl, _, ⟨heap_setCell_same _ _ _ _ _ _ (hO.heap hrow (by simp)), (hR.own hO2 (by simpa using hne)).owns hEnc_len, by simpa [Value.ownBlock] using hne⟩, (hO.nil.trans hO2).mono (by simp), .inr ⟨g2, rfl, hge⟩⟩

set_option maxRecDepth 100000 in
set_option maxHeartbeats 4000000 in
theorem ref_nil (xb : Nat) (w : World) (n t : ByteArray) (on : Bool) (hrow : w.heap[xb]? = some (.cells #[.slice none 0 0] 36 (0, 0)))
    (hn : n.toList.isEmpty = false) (hu : (t.toList == [79, 78, 76, 73, 78, 69]) = on) (hd : on = false → (t.toList == [79, 70, 70, 76, 73, 78, 69]) = true) :
    Calls Try.prog 12 #[.pointer (some ⟨xb, 0, none⟩), .string n, .string t] w (RefPost w xb (.slice none 0 0) (1, [(n, on)])) := by
  have c0 : w.cell? ⟨xb, 0, none⟩ = some (.slice none 0 0) := cell_of_row w xb 0 _ _ _ hrow
  have hxl := lt_of_heap hrow
  obtain ⟨i0, hi, hz0, hz1, hz2⟩ := info_parts viewInfo
  have hap1 := append_nil_run (w.alloc (.cells #[] 39)) w.heap.size
  have hown := fun o => (owns_empty (T := 39) (k := 2) w).alloc o
  replace hown := Lib.hid hown
  replace hrow := Lib.hid hrow
  cases on
  · have hd' := hd rfl
    clear hd
    go_enter Try.func12, Try.ntmps12
    go_wp2_with fail
    go_loopg [7] 1 (fun gk i wr => gk = 1 ∧ i = .int .i64 0 ∧ wr = w)
    case atStart => exact ⟨rfl, rfl, rfl⟩
    case round =>
      obtain ⟨rfl, rfl, rfl⟩ := hrel
      go_wp2_with (at_builtin; refine wpList_append_own_at _ rfl (.tmp 80) (.tmp 85) 34 rfl 0 39 i0 _ 2 24 Try.underlying34 hi hz0 hz1 hz2 rfl (by omega) (.slice (some ⟨wr.heap.size, 0, none⟩) 0 0) 0 [] rfl (hown.out _) ⟨(wr.alloc (.cells #[] 39)).heap.size, 0, none⟩ 1 1 [.string n, .bool false] (by simp [Act.eval]) rfl (World.news_of_block (heap_alloc_new (wr.alloc (.cells #[] 39)) (.cells #[.string n, .bool false] 39))) (by intro u hu; simp at hu; rcases hu with rfl | rfl <;> rfl) (by unfold maxLen; omega) (by omega) (Nat.zero_le _) ?_; intro v2 w4 hown2 hgrow2 hnil2 hat2; have hv2 : v2 ≠ .slice none 0 0 := (fun e => by have := (hnil2.1 e).2; omega); obtain ⟨g2, cap2, hv, hR⟩ := owned_row (l := [(n, false)]) (enc := hEnc) hown2 rfl hv2; have hc2 : 1 ≤ cap2 := (by obtain ⟨_, _, h, _⟩ := hR; exact h); replace hv : v2 = .slice (some ⟨g2, 0, none⟩) 1 cap2 := hv; subst hv; have hO2 : Own [] wr w4 := ((((Own.refl [] wr).alloc _).alloc _).trans' (grown_own hgrow2 rfl) (fun z hz => by simp at hz; right; omega)); have d1 := (hO2.cell (p := ⟨xb, 0, none⟩) hxl (by simp)).trans c0; have f2 : w4.frozen? ⟨xb, 0, none⟩ = false := (frozen_of_row w4 xb 0 _ _ (hO2.heap hrow.out (by simp))); have hge : wr.heap.size ≤ g2 := (by simp [Value.ownBlock] at hat2; omega); have hap2 := append_nil_any w4 g2 1 cap2 hc2; replace hO2 := Lib.hid hO2; replace hR := Lib.hid hR; clear hown2 hgrow2 hnil2 hat2 hv2)
      go_ret
      exact nil_end hrow.out hO2.out hR.out hge
  · clear hd
    go_enter Try.func12, Try.ntmps12
    go_wp2_with fail
    go_loopg [7] 1 (fun gk i wr => gk = 1 ∧ i = .int .i64 0 ∧ wr = w)
    case atStart => exact ⟨rfl, rfl, rfl⟩
    case round =>
      obtain ⟨rfl, rfl, rfl⟩ := hrel
      go_wp2_with (at_builtin; refine wpList_append_own_at _ rfl (.tmp 80) (.tmp 85) 34 rfl 0 39 i0 _ 2 24 Try.underlying34 hi hz0 hz1 hz2 rfl (by omega) (.slice (some ⟨wr.heap.size, 0, none⟩) 0 0) 0 [] rfl (hown.out _) ⟨(wr.alloc (.cells #[] 39)).heap.size, 0, none⟩ 1 1 [.string n, .bool true] (by simp [Act.eval]) rfl (World.news_of_block (heap_alloc_new (wr.alloc (.cells #[] 39)) (.cells #[.string n, .bool true] 39))) (by intro u hu; simp at hu; rcases hu with rfl | rfl <;> rfl) (by unfold maxLen; omega) (by omega) (Nat.zero_le _) ?_; intro v2 w4 hown2 hgrow2 hnil2 hat2; have hv2 : v2 ≠ .slice none 0 0 := (fun e => by have := (hnil2.1 e).2; omega); obtain ⟨g2, cap2, hv, hR⟩ := owned_row (l := [(n, true)]) (enc := hEnc) hown2 rfl hv2; have hc2 : 1 ≤ cap2 := (by obtain ⟨_, _, h, _⟩ := hR; exact h); replace hv : v2 = .slice (some ⟨g2, 0, none⟩) 1 cap2 := hv; subst hv; have hO2 : Own [] wr w4 := ((((Own.refl [] wr).alloc _).alloc _).trans' (grown_own hgrow2 rfl) (fun z hz => by simp at hz; right; omega)); have d1 := (hO2.cell (p := ⟨xb, 0, none⟩) hxl (by simp)).trans c0; have f2 : w4.frozen? ⟨xb, 0, none⟩ = false := (frozen_of_row w4 xb 0 _ _ (hO2.heap hrow.out (by simp))); have hge : wr.heap.size ≤ g2 := (by simp [Value.ownBlock] at hat2; omega); have hap2 := append_nil_any w4 g2 1 cap2 hc2; replace hO2 := Lib.hid hO2; replace hR := Lib.hid hR; clear hown2 hgrow2 hnil2 hat2 hv2)
      go_ret
      exact nil_end hrow.out hO2.out hR.out hge

theorem ref_any (xb : Nat) (v : Value) (r : HSt) (w : World) (n t : ByteArray) (h : RefH w xb v r) (hl : r.length ≤ 4) :
    Calls Try.prog 12 #[.pointer (some ⟨xb, 0, none⟩), .string n, .string t] w (RefPost w xb v (rTake' r n t)) := by
  by_cases h1 : n.toList = []
  · exact ref_bad xb v r w n t h (.inl h1)
  · have hb : n.toList.isEmpty = false := by simpa using h1
    have main : ∀ on : Bool, (t.toList == [79, 78, 76, 73, 78, 69]) = on → (on = false → (t.toList == [79, 70, 70, 76, 73, 78, 69]) = true) →
        Calls Try.prog 12 #[.pointer (some ⟨xb, 0, none⟩), .string n, .string t] w (RefPost w xb v (rPut r n on)) := by
      intro on hu hd
      have ho := h.own
      by_cases hv : v = .slice none 0 0
      · subst hv
        rcases ho.2 with ⟨_, h0⟩ | ⟨g, cap, cur, he, _⟩
        · obtain rfl : r = [] := List.eq_nil_of_length_eq_zero h0
          rw [rPut_nil]
          exact ref_nil xb w n t on h.row hb hu hd
        · cases he
      · obtain ⟨g, cap, rfl, hR⟩ := owned_row ho rfl hv
        exact ref_own xb g cap r w n t on h.row hR (by simpa [Value.ownBlock] using h.ne) hl hb hu hd
    unfold rTake'
    rw [if_neg h1]
    by_cases hu : t.toList = upB
    · rw [if_pos hu]
      exact main true (by simp [hu, upB]) (by simp)
    · rw [if_neg hu]
      by_cases hd : t.toList = downB
      · rw [if_pos hd]
        exact main false (by simpa [upB] using hu) (fun _ => by simp [hd, downB])
      · rw [if_neg hd]
        have := ref_bad xb v r w n t h (.inr ⟨h1, hu, hd⟩)
        unfold rTake' at this
        rwa [if_neg h1, if_neg hu, if_neg hd] at this
end Go.Proofs.Ytnodacfhkgkliaa
