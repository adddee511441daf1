/- Package trie: slices.SortFunc over filters; Of. -/
import Derived.Test.YtldagaliddgdjaaGreatDoorTrieGather
import Derived.Test.YtldagaliddgdjaaGreatDoorStrOrd
import Derived.StillTailTactics
namespace Go.Proofs.YtldagaliddgdjaaGreatDoor
open Go.RowKit Go.Sort Go.Lib Go.Shelf

theorem gather_any (W0 : World) (N : Nodes) (k : Int) (o : Nat) (hF0 : Forest W0 N) (hK : KeysN N) (hC : Closed' N) (hoW : W0.heap.size ≤ o) : ∀ (F c : Nat), Low N c F → Has N c → GatherC W0 N k o (F + 1) c
  | 0, c, hl, hc => gather_step W0 N k o 0 c hF0 hK hc hoW (fun x d h => by
      have := hl [x] d (by rw [reachN_cons, h]; rfl)
      simp at this)
  | F + 1, c, hl, hc => gather_step W0 N k o (F + 1) c hF0 hK hc hoW (fun x d h => gather_any W0 N k o hF0 hK hC hoW F d (fun L e he => by
      have := hl (x :: L) e (by rw [reachN_cons, h]; exact he)
      simp at this
      omega) (nSub_has hC h))
set_option maxRecDepth 100000 in
set_option maxHeartbeats 4000000 in
theorem fcmp_any (x y : ByteArray × Int) (W : World) :
    Calls Tryz.prog 33 #[.agg (fEnc x).toArray, .agg (fEnc y).toArray] W fun e w' => e = .returned (.int .i64 (scmp x.1 y.1)) ∧ ∃ q os', w' = grow (W.drewN q) os' := by
  obtain ⟨x1, x2⟩ := x
  obtain ⟨y1, y2⟩ := y
  unfold fEnc scmp sless
  have hw : ∃ q os', (W.alloc (.cells #[.string x1, .int .i64 x2] 32)).alloc (.cells #[.string y1, .int .i64 y2] 32) = grow (W.drewN q) os' := ⟨0, _, by rw [alloc_eq_grow, alloc_eq_grow, grow_grow]; rfl⟩
  replace hw := Lib.hid hw
  cases h1 : Op.bytesLess x1.toList y1.toList
  · cases h2 : (x1.toList == y1.toList)
    · simp only [Bool.false_eq_true, if_false]
      go_enter Tryz.func33, Tryz.ntmps33
      go_wp2_with go_in
      go_ret
      exact ⟨rfl, hw.out⟩
    · simp only [Bool.false_eq_true, if_false, if_true]
      go_enter Tryz.func33, Tryz.ntmps33
      go_wp2_with go_in
      go_ret
      exact ⟨rfl, hw.out⟩
  · simp only [if_true]
    go_enter Tryz.func33, Tryz.ntmps33
    go_wp2_with go_in
    go_ret
    exact ⟨rfl, hw.out⟩
set_option maxHeartbeats 2000000 in
theorem fins_nil (fv : Value) (W : World) : Calls Tryz.prog 70 #[.slice none 0 0, .int .i64 0, .int .i64 0, fv] W fun e w' => e = .returned (.tuple #[]) ∧ w' = W := by
  go_enter Tryz.func70, Tryz.ntmps70
  go_wp2_with fail
  refine wp_loop_rounds 1 ?_
  rw [rounds_succ]
  go_wp2_with fail
  go_end0
  exact ⟨rfl, rfl⟩
set_option maxHeartbeats 2000000 in
theorem fpdq_nil (fv : Value) (n : Int) (W : World) : Calls Tryz.prog 55 #[.slice none 0 0, .int .i64 0, .int .i64 0, .int .i64 n, fv] W fun e w' => e = .returned (.tuple #[]) ∧ w' = W := by
  have H := Lib.hid (fun W => fins_nil fv W)
  go_enter Tryz.func55, Tryz.ntmps55
  go_wp2_with fail
  refine wp_loop_rounds 1 ?_
  rw [rounds_succ]
  go_wp2_with (go_at_call 70; refine (H.out _).mono ?_; rintro e w' ⟨rfl, rfl⟩)
  (try simp only [Exit.inBlock, Exit.then]); refine bodyPost_ret (results_none rfl _ _ _) rfl ?_
  exact ⟨rfl, rfl⟩
set_option maxRecDepth 100000 in
set_option maxHeartbeats 4000000 in
theorem fsort_nil (fv : Value) (W : World) : Calls Tryz.prog 32 #[.slice none 0 0, fv] W fun e w' => e = .returned (.tuple #[]) ∧ w' = W := by
  have H := Lib.hid (fun n W => fpdq_nil fv n W)
  go_enter Tryz.func32, Tryz.ntmps32
  go_wp2_with (first | (go_at_call 55; refine (H.out _ _).mono ?_; rintro e w' ⟨rfl, rfl⟩) | go_in)
  go_end0
  exact ⟨rfl, rfl⟩
theorem sort_filts {base : Nat} {w : World} {v : Value} {l : List (ByteArray × Int)} (h : Sl 32 fEnc 2 base w v l) (hl : l.length < 4611686018427387904) :
    Calls Tryz.prog 32 #[v, .func (.func 33) #[] #[]] w fun e w' =>
      e = .returned (.tuple #[]) ∧ ∃ l', l'.Perm l ∧ l'.Pairwise (fun x y => sless y.1 x.1 = false) ∧ Sl 32 fEnc 2 base w' v l' ∧ Own v.ownBlock.toList w w' := by
  rcases h.form with ⟨rfl, rfl⟩ | ⟨g, cap, rfl, hg, hR⟩
  · refine (fsort_nil _ w).mono ?_
    rintro e w' ⟨he, rfl⟩
    exact ⟨he, [], List.Perm.refl _, List.Pairwise.nil, h, Own.refl _ _⟩
  · have eg : ∀ args w, (callFunc 33 args).run Tryz.prog w = .ok (.enter 33 args) w := enters_of Tryz.func33 (by kernel_rfl) rfl
    refine (sort_row Tryz.sortFilters (by intro w; kernel_rfl) (by intro w; kernel_rfl) fEnc_len (fun x v hv => fElem.one x v hv) (fun (x y : ByteArray × Int) => scmp x.1 y.1) (scmp_order (α := ByteArray × Int) (·.1)) 33 eg fcmp_any hR hl).mono ?_
    rintro e w' ⟨he, l', h1, h2, h3, h4⟩
    refine ⟨he, l', h1, h2.imp ?_, ?_, by simpa [Value.ownBlock] using h4⟩
    · intro x y hxy
      rwa [ltOf_scmp (α := ByteArray × Int) (·.1)] at hxy
    · rw [← h1.length_eq]
      exact Sl.of_row h3 fEnc_len hg

def OfPost (N : Nodes) (root : Nat) (k : Int) (w : World) (e : Ending) (w' : World) : Prop :=
  ∃ v R, e = .returned v ∧ Sl 32 fEnc 2 w.heap.size w' v R ∧ R.Perm ((allN N 13 root k).map (toF [])) ∧ R.Pairwise (fun x y => sless y.1 x.1 = false) ∧ Own [] w w'
theorem of_unknown (t root : Nat) (N : Nodes) (cnt : List Int) (k : Int) (w : World) (h : Trie w t root N cnt) (hk : k < 0 ∨ 8 ≤ k) :
    Calls Tryz.prog 12 #[.pointer (some ⟨t, 0, none⟩), .int .i64 k] w fun e w' => e = .returned (.slice none 0 0) ∧ w = w' := by
  have c0 := h.cell0
  have hkn := Lib.hid (fun W => known_bad k W hk)
  clear h hk
  go_enter Tryz.func12, Tryz.ntmps12
  go_wp2_with (first
    | (go_at_call 22; refine (tnone_no t root _ c0).mono ?_; rintro e w' ⟨rfl, rfl⟩)
    | (go_at_call 30; refine (hkn.out _).mono ?_; rintro e w' ⟨rfl, rfl⟩))
  go_ret
  exact ⟨rfl, rfl⟩
set_option maxRecDepth 100000 in
set_option maxHeartbeats 4000000 in
theorem of_any (t root : Nat) (N : Nodes) (cnt : List Int) (k : Nat) (w : World) (h : Trie w t root N cnt) (hk : k < 8) (hK : KeysN N) (hlow : Low N root 12) (hn : (allN N 13 root k).length ≤ 1000) (hs : ∀ e ∈ allN N 13 root k, (joinB e.1).size ≤ 1000) :
    Calls Tryz.prog 12 #[.pointer (some ⟨t, 0, none⟩), .int .i64 k] w (OfPost N root k w) := by
  have c0 := h.cell0
  have hkn := Lib.hid (fun W => known_any k W hk)
  have hA : Own [] w (w.alloc (.cells #[.slice none 0 0] 40)) := (Own.refl _ _).alloc _
  have c1 := (h.nil' hA).cell0
  have hG := gather_any w N k w.heap.size h.forest hK h.closed (Nat.le_refl _) 12 root hlow h.has [] (.slice none 0 0) (.slice none 0 0) [] (w.alloc (.cells #[.slice none 0 0] 40)) (by simp) (.inl ⟨rfl, rfl⟩) (fun a n c e => by cases e; exact Nat.le_refl _) (fun b hb => by cases hb) hA
    ⟨heap_alloc_new _ _, Sl.nil _ _ _, by simp [Value.ownBlock]⟩ (by simpa using hn) (fun e he => by simpa using hs e he)
  have ht := h.lt
  replace hG := Lib.hid hG
  have hn1 := Lib.hid hn
  clear h hk hn hs hA hlow hK
  go_enter Tryz.func12, Tryz.ntmps12
  go_wp2_with (first
    | (go_at_call 22; refine (tnone_no t root _ c0).mono ?_; rintro e w' ⟨rfl, rfl⟩)
    | (go_at_call 30; refine (hkn.out _).mono ?_; rintro e w' ⟨rfl, rfl⟩))
  refine hG.out.mono ?_
  rintro e w2 ⟨rfl, vo, T, hOut, hT, hOW, _, _⟩
  rw [List.nil_append] at hT
  have hTl : T.length ≤ 1000 := by rw [hT.length_eq, List.length_map]; exact hn1.out
  have hC2 : w2.cell? ⟨w.heap.size, 0, none⟩ = some vo := cell_of_row w2 _ 0 _ _ _ hOut.row
  have hSo := sort_filts hOut.own (by omega)
  have hrow := hOut.row
  have hne := hOut.ne
  replace hSo := Lib.hid hSo
  replace hrow := Lib.hid hrow
  replace hne := Lib.hid hne
  replace hT := Lib.hid hT
  replace hOW := Lib.hid hOW
  have hbk := fun g hg => (hOut.own.block (g := g) hg).1
  replace hbk := Lib.hid hbk
  obtain ⟨sa, sc, rfl⟩ := hOut.own.sl
  clear hOut
  go_wp2_with (go_at_call 32; refine hSo.out.mono ?_; rintro e w3 ⟨rfl, R, hp, hpw, hS3, hO3⟩; have hC3 : w3.cell? ⟨w.heap.size, 0, none⟩ = some (.slice sa T.length sc) := cell_of_row w3 _ 0 _ _ _ (hO3.heap hrow.out (fun hx => hne.out (Option.mem_toList.1 hx))); have hF := Lib.hid (And.intro hS3 (And.intro (hp.trans hT.out) (And.intro hpw (hOW.out.trans' hO3 (fun x hx => .inr (hbk.out x (Option.mem_toList.1 hx))))))); clear hp hpw hS3 hO3)
  go_ret
  exact ⟨_, R, rfl, hF.out⟩
end Go.Proofs.YtldagaliddgdjaaGreatDoor
