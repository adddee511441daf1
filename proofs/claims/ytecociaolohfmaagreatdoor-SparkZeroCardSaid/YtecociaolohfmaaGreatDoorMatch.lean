/- Package match: begin, along, Match. -/
import Derived.Test.YtecociaolohfmaaGreatDoorFilter
import Derived.Deep.QuietTactic
import Derived.BigQuiet
import Derived.Deep.RegionHeld3
import Derived.Deep.RegionWith
import Derived.StillTailTactics
namespace Go.Proofs.YtecociaolohfmaaGreatDoor
open Go.RowKit Go.Lib Go.Shelf

def fWild (s : ByteArray) : Bool := s.toList.head? == some 43 || s.toList.head? == some 35
def mMatch (f n : ByteArray) : Bool := lvFilter f && lvName n && !(fWild f && lvHidden n) && wants (levels f) (levels n)

set_option maxRecDepth 100000 in
set_option maxHeartbeats 4000000 in
theorem begin_any (f n : ByteArray) (w : World) (hf : 0 < f.size) (hn : 0 < n.size) :
    Calls Tryz.prog 86 #[.string f, .string n] w fun e w' => e = .returned (.agg #[.bool (fWild f), .bool (lvHidden n)]) ∧ Own [] w w' := by
  have H := Lib.hid (fun W => hidden_any n W hn)
  unfold fWild
  have hge : (1 : Int) ≤ f.size := by omega
  have hp := head_ext hf 43
  have hh := head_ext hf 35
  generalize (f.toList.head? == some (43 : UInt8)) = b1 at hp ⊢
  generalize (f.toList.head? == some (35 : UInt8)) = b2 at hh ⊢
  generalize lvHidden n = b3 at H ⊢
  cases b1
  · go_enter Tryz.func86, Tryz.ntmps86
    go_wp2_with fail
    refine wp_region_still_tail 11 (by kernel_rfl) (by kernel_rfl) ?_
    simp only [List.take_succ_cons, List.take_zero, List.drop_succ_cons, List.drop_zero]
    repeat (first | still_step | (still_call ((H.out _).mono (fun e w' h => ⟨h.1, h.2.symm⟩))))
    refine wpStill_nil ?_
    change wpList _ _ _ _ _ ((w.alloc (.cells #[.bool false, .bool false] 164)).drew)
    go_wp2_with fail
    refine bodyPost_ret (v := .agg #[.bool b2, .bool b3]) (by simp [results, Tryz.results86, go_sem]) rfl ⟨by simp, ?_⟩
    repeat (first | exact Own.refl _ _ | (refine Own.setCell ?_ (by simp) _) | refine Own.alloc ?_ _ | refine Own.drew ?_)
  · go_enter Tryz.func86, Tryz.ntmps86
    go_wp2_with fail
    refine wp_region_still_tail 11 (by kernel_rfl) (by kernel_rfl) ?_
    simp only [List.take_succ_cons, List.take_zero, List.drop_succ_cons, List.drop_zero]
    repeat (first | still_step | (still_call ((H.out _).mono (fun e w' h => ⟨h.1, h.2.symm⟩))))
    refine wpStill_nil ?_
    change wpList _ _ _ _ _ ((w.alloc (.cells #[.bool false, .bool false] 164)).drew)
    go_wp2_with fail
    refine bodyPost_ret (v := .agg #[.bool true, .bool b3]) (by simp [results, Tryz.results86, go_sem]) rfl ⟨by simp, ?_⟩
    repeat (first | exact Own.refl _ _ | (refine Own.setCell ?_ (by simp) _) | refine Own.alloc ?_ _ | refine Own.drew ?_)

set_option maxHeartbeats 1000000 in
theorem holds_any (x y : ByteArray) (w : World) : Calls Tryz.prog 88 #[.string x, .string y] w fun e w' => e = .returned (.bool (x == plusB || x == y)) ∧ w = w' := by
  have h1 : (x == plusB) = (x.toList == [43]) := by rw [eq_toList, plus_list]
  have h2 : (x == y) = (x.toList == y.toList) := eq_toList x y
  rw [h1, h2]
  cases hb : (x.toList == [43])
  · go_enter Tryz.func88, Tryz.ntmps88
    go_wp2_with fail
    go_ret
    exact ⟨rfl, rfl⟩
  · go_enter Tryz.func88, Tryz.ntmps88
    go_wp2_with fail
    go_ret
    exact ⟨rfl, rfl⟩

/-- What the closure holds: both lists, what holds, itself. -/
structure Closed (w : World) (va vb : Value) (a b h f : Nat) : Prop where
  ca : w.cell? ⟨a, 0, none⟩ = some va
  cb : w.cell? ⟨b, 0, none⟩ = some vb
  ch : w.cell? ⟨h, 0, none⟩ = some (.func (.func 88) #[] #[])
  cf : w.cell? ⟨f, 0, none⟩ = some (.func (.func 128) #[] #[.pointer (some ⟨a, 0, none⟩), .pointer (some ⟨b, 0, none⟩), .pointer (some ⟨h, 0, none⟩), .pointer (some ⟨f, 0, none⟩)])
theorem Closed.nil {w w' : World} {va vb : Value} {a b h f : Nat} (H : Closed w va vb a b h f) (ho : Own [] w w') : Closed w' va vb a b h f :=
  ⟨(ho.cell (block_lt_of_cell H.ca) (by simp)).trans H.ca, (ho.cell (block_lt_of_cell H.cb) (by simp)).trans H.cb, (ho.cell (block_lt_of_cell H.ch) (by simp)).trans H.ch, (ho.cell (block_lt_of_cell H.cf) (by simp)).trans H.cf⟩

set_option maxRecDepth 100000 in
set_option maxHeartbeats 4000000 in
theorem from_any (A B : List ByteArray) (va vb : Value) (a b h f : Nat) : ∀ (k i : Nat) (w : World), k + i = A.length → i ≤ B.length → A.length ≤ 1000 → B.length ≤ 1000 → Closed w va vb a b h f → Reads lEnc w va A → Reads lEnc w vb B →
    Calls Tryz.prog 128 #[.int .i64 i, .pointer (some ⟨a, 0, none⟩), .pointer (some ⟨b, 0, none⟩), .pointer (some ⟨h, 0, none⟩), .pointer (some ⟨f, 0, none⟩)] w fun e w' =>
      e = .returned (.bool (wants (A.drop i) (B.drop i))) ∧ Own [] w w' := by
  intro k
  induction k with
  | zero =>
    intro i w hk hi hA hB hC ha hb
    obtain ⟨c1, c2, c3, c4⟩ := hC
    have hd : A.drop i = [] := List.drop_eq_nil_of_le (by omega)
    have hw : wants (A.drop i) (B.drop i) = ((i : Int) == (B.length : Int)) := by
      rw [hd]
      unfold wants
      by_cases h : i = B.length
      · rw [List.drop_eq_nil_of_le (by omega)]; simp [h]
      · have : B.drop i ≠ [] := by intro e; have := congrArg List.length e; simp at this; omega
        cases hdb : B.drop i with
        | nil => exact absurd hdb this
        | cons => simp; omega
    rw [hw]
    obtain ⟨aa, ca, rfl⟩ := ha.form
    obtain ⟨ab, cb, rfl⟩ := hb.form
    have hia : A.length = i := by omega
    rw [hia] at c1
    clear hd hw ha hb hk hia
    go_enter Tryz.func128, Tryz.ntmps128
    go_wp2_with fail
    go_ret
    exact ⟨rfl, Own.refl _ _⟩
  | succ k ih =>
    intro i w hk hi hA hB hC ha hb
    have hiA : i < A.length := by omega
    obtain ⟨x, hx⟩ : ∃ x, A[i]? = some x := ⟨_, List.getElem?_eq_getElem hiA⟩
    have hdA : A.drop i = x :: A.drop (i + 1) := by
      rw [List.drop_eq_getElem_cons hiA]
      rw [List.getElem?_eq_getElem hiA] at hx
      rw [Option.some.inj hx]
    obtain ⟨aa, ca, rfl⟩ := ha.form
    obtain ⟨ab, cb, rfl⟩ := hb.form
    obtain ⟨b0, o0, rfl, hca⟩ := ha.at_ lEnc_len (by omega)
    have hxc : w.cell? ⟨b0, o0 + i, none⟩ = some (.string x) := by simpa using hca i x 0 _ hx rfl
    have hne : ((i : Int) == (A.length : Int)) = false := by simp; omega
    have hi0 : (0 : Int) ≤ i := by omega
    have hi1 : (i : Int) < A.length := by omega
    obtain ⟨c1, c2, c3, c4⟩ := hC
    have hC : Closed w _ _ a b h f := ⟨c1, c2, c3, c4⟩
    have hu : wants (x :: A.drop (i + 1)) (B.drop i) = if x == hashB then true else match B.drop i with | [] => false | y :: m => (x == plusB || x == y) && wants (A.drop (i + 1)) m := by first | rfl | rw [wants.eq_def]
    rw [hdA, hu]
    have hxh : (x == hashB) = (x.toList == [35]) := by rw [eq_toList, hash_list]
    rw [hxh]
    clear hu hxh hdA
    cases hh : (x.toList == [35])
    · simp only [Bool.false_eq_true, if_false]
      by_cases hiB : i < B.length
      · obtain ⟨y, hy⟩ : ∃ y, B[i]? = some y := ⟨_, List.getElem?_eq_getElem hiB⟩
        have hdB : B.drop i = y :: B.drop (i + 1) := by
          rw [List.drop_eq_getElem_cons hiB]
          rw [List.getElem?_eq_getElem hiB] at hy
          rw [Option.some.inj hy]
        rw [hdB]
        simp only
        obtain ⟨b1, o1, rfl, hcb⟩ := hb.at_ lEnc_len (by omega)
        have hyc : w.cell? ⟨b1, o1 + i, none⟩ = some (.string y) := by simpa using hcb i y 0 _ hy rfl
        have hneB : ((i : Int) == (B.length : Int)) = false := by simp; omega
        have hi2 : (i : Int) < B.length := by omega
        have IH := fun w' (ho : Own [] w w') => ih (i + 1) w' (by omega) (by omega) hA hB (hC.nil ho) (ha.nil' ho) (hb.nil' ho)
        have hcast : ((i + 1 : Nat) : Int) = (i : Int) + 1 := by omega
        simp only [hcast] at IH
        generalize wants (A.drop (i + 1)) (B.drop (i + 1)) = ans at IH ⊢
        have HH := Lib.hid (fun W => holds_any x y W)
        have hS : ∀ w', Own [] w w' → w'.cell? ⟨a, 0, none⟩ = some (.slice (some ⟨b0, o0, none⟩) A.length ca) ∧ w'.cell? ⟨b, 0, none⟩ = some (.slice (some ⟨b1, o1, none⟩) B.length cb) ∧ w'.cell? ⟨h, 0, none⟩ = some (.func (.func 88) #[] #[]) ∧
            w'.cell? ⟨f, 0, none⟩ = some (.func (.func 128) #[] #[.pointer (some ⟨a, 0, none⟩), .pointer (some ⟨b, 0, none⟩), .pointer (some ⟨h, 0, none⟩), .pointer (some ⟨f, 0, none⟩)]) ∧ w'.cell? ⟨b0, o0 + i, none⟩ = some (.string x) ∧ w'.cell? ⟨b1, o1 + i, none⟩ = some (.string y) := fun w' ho =>
          ⟨(hC.nil ho).ca, (hC.nil ho).cb, (hC.nil ho).ch, (hC.nil ho).cf, (ho.cell (block_lt_of_cell hxc) (by simp)).trans hxc, (ho.cell (block_lt_of_cell hyc) (by simp)).trans hyc⟩
        have hw1 : IntKind.i64.wrap ((i : Int) + 1) = (i : Int) + 1 := IntWalk.i64_in _ (by omega)
        replace IH := Lib.hid IH
        have hS0 := hS w.drew (Own.refl _ _).drew
        replace hS := Lib.hid hS
        have hdr : Own [] w w.drew := (Own.refl _ _).drew
        replace hdr := Lib.hid hdr
        clear hC ha hb hca hcb hdB hcast ih hk hi hA hB hx hy
        generalize (x == plusB || x == y) = q at HH ⊢
        cases q
        · go_enter Tryz.func128, Tryz.ntmps128
          go_wp2_with fail
          go_quiet ((go_at_call 88; exact Calls.quiet_of_same ((HH.out _).mono (fun _ _ h => ⟨h.1, h.2.symm⟩))))
          go_wp2_with fail
          go_ret
          exact ⟨rfl, (Own.refl _ _).drewN _⟩
        · go_enter Tryz.func128, Tryz.ntmps128
          go_wp2_with fail
          go_region_held3 (fun w' => w'.cell? ⟨a, 0, none⟩ = some (.slice (some ⟨b0, o0, none⟩) A.length ca) ∧ w'.cell? ⟨b, 0, none⟩ = some (.slice (some ⟨b1, o1, none⟩) B.length cb) ∧ w'.cell? ⟨h, 0, none⟩ = some (.func (.func 88) #[] #[]) ∧
            w'.cell? ⟨f, 0, none⟩ = some (.func (.func 128) #[] #[.pointer (some ⟨a, 0, none⟩), .pointer (some ⟨b, 0, none⟩), .pointer (some ⟨h, 0, none⟩), .pointer (some ⟨f, 0, none⟩)]) ∧ w'.cell? ⟨b0, o0 + i, none⟩ = some (.string x) ∧ w'.cell? ⟨b1, o1 + i, none⟩ = some (.string y))
            (first | exact hS0 | exact kA | go_keep)
            ((first
              | (go_at_call 88; refine (HH.out _).mono ?_; rintro e w2 ⟨rfl, rfl⟩)
              | (go_at_call 128; refine (IH.out _ hdr.out).mono ?_; rintro e w3 ⟨rfl, hO3⟩; replace hO3 := hdr.out.trans hO3; have kA := hS.out _ hO3; replace hO3 := Lib.hid hO3)))
          all_goals
            go_wp2_with fail
            go_ret
            exact ⟨rfl, hO3.out⟩
      · have hneB : ((i : Int) == (B.length : Int)) = true := by simp; omega
        rw [List.drop_eq_nil_of_le (by omega)]
        simp only
        clear hC ha hb hca ih hk hi hA hB hx
        go_enter Tryz.func128, Tryz.ntmps128
        go_wp2_with fail
        go_ret
        exact ⟨rfl, Own.refl _ _⟩
    · simp only [if_true]
      clear hC ha hb hca ih hk hi hA hB hx
      go_enter Tryz.func128, Tryz.ntmps128
      go_wp2_with fail
      go_ret
      exact ⟨rfl, Own.refl _ _⟩

set_option maxRecDepth 100000 in
set_option maxHeartbeats 4000000 in
theorem along_any (A B : List ByteArray) (va vb : Value) (w : World) (hA : A.length ≤ 1000) (hB : B.length ≤ 1000) (ha : Reads lEnc w va A) (hb : Reads lEnc w vb B) :
    Calls Tryz.prog 87 #[va, vb, .func (.func 88) #[] #[]] w fun e w' => e = .returned (.bool (wants A B)) ∧ Own [] w w' := by
  obtain ⟨aa, ca, rfl⟩ := ha.form
  obtain ⟨ab, cb, rfl⟩ := hb.form
  have F := fun w' (hO : Own [] w w') (hC : Closed w' _ _ w.heap.size (w.heap.size + 1) (w.heap.size + 1 + 1) (w.heap.size + 1 + 1 + 1)) => from_any A B _ _ w.heap.size (w.heap.size + 1) (w.heap.size + 1 + 1) (w.heap.size + 1 + 1 + 1) A.length 0 w' (by omega) (Nat.zero_le _) hA hB hC (ha.nil' hO) (hb.nil' hO)
  simp only [List.drop_zero, Int.natCast_zero] at F
  generalize wants A B = ans at F ⊢
  replace F := Lib.hid F
  clear ha hb
  have hr0 := heap_alloc_new w (.cells #[.slice aa A.length ca] 72)
  have hr1 := heap_alloc_new (w.alloc (.cells #[.slice aa A.length ca] 72)) (.cells #[.slice ab B.length cb] 72)
  have hr2 := heap_alloc_new ((w.alloc (.cells #[.slice aa A.length ca] 72)).alloc (.cells #[.slice ab B.length cb] 72)) (.cells #[.func (.func 88) #[] #[]] 111)
  have hr3 := heap_alloc_new (((w.alloc (.cells #[.slice aa A.length ca] 72)).alloc (.cells #[.slice ab B.length cb] 72)).alloc (.cells #[.func (.func 88) #[] #[]] 111)) (.cells #[(.func (.func 128) #[] #[.pointer (some ⟨w.heap.size, 0, none⟩), .pointer (some ⟨w.heap.size + 1, 0, none⟩), .pointer (some ⟨w.heap.size + 1 + 1, 0, none⟩), .pointer (some ⟨w.heap.size + 1 + 1 + 1, 0, none⟩)])] 167)
  simp only [World.size_alloc] at hr1 hr2 hr3
  have o1 : ∀ (W : World) (o : Obj), Own [] W (W.alloc o) := fun W o => (Own.refl _ _).alloc o
  have hC : Closed ((((w.alloc (.cells #[.slice aa A.length ca] 72)).alloc (.cells #[.slice ab B.length cb] 72)).alloc (.cells #[.func (.func 88) #[] #[]] 111)).alloc (.cells #[(.func (.func 128) #[] #[.pointer (some ⟨w.heap.size, 0, none⟩), .pointer (some ⟨w.heap.size + 1, 0, none⟩), .pointer (some ⟨w.heap.size + 1 + 1, 0, none⟩), .pointer (some ⟨w.heap.size + 1 + 1 + 1, 0, none⟩)])] 167)) (.slice aa A.length ca) (.slice ab B.length cb) w.heap.size (w.heap.size + 1) (w.heap.size + 1 + 1) (w.heap.size + 1 + 1 + 1) :=
    ⟨cell_of_row _ _ 0 _ _ _ ((o1 _ _).heap ((o1 _ _).heap ((o1 _ _).heap hr0 (by simp)) (by simp)) (by simp)), cell_of_row _ _ 0 _ _ _ ((o1 _ _).heap ((o1 _ _).heap hr1 (by simp)) (by simp)), cell_of_row _ _ 0 _ _ _ ((o1 _ _).heap hr2 (by simp)), cell_of_row _ _ 0 _ _ _ hr3⟩
  have hOw : Own [] w _ := ((((Own.refl [] w).alloc (.cells #[.slice aa A.length ca] 72)).alloc (.cells #[.slice ab B.length cb] 72)).alloc (.cells #[.func (.func 88) #[] #[]] 111)).alloc (.cells #[(.func (.func 128) #[] #[.pointer (some ⟨w.heap.size, 0, none⟩), .pointer (some ⟨w.heap.size + 1, 0, none⟩), .pointer (some ⟨w.heap.size + 1 + 1, 0, none⟩), .pointer (some ⟨w.heap.size + 1 + 1 + 1, 0, none⟩)])] 167)
  have hF := Lib.hid (F.out _ hOw hC)
  replace hOw := Lib.hid hOw
  clear F hC hr0 hr1 hr2 hr3 o1
  have hsf := fun (a : Addr) (c : Array Value) (w : World) => run_store Tryz.prog w a (.func (.func 128) #[] c) .plain rfl
  go_enter Tryz.func87, Tryz.ntmps87
  go_wp2_with (go_at_call 128; refine hF.out.mono ?_; rintro e w6 ⟨rfl, hO6⟩; replace hO6 := Lib.hid (hOw.out.trans hO6))
  go_ret
  exact ⟨rfl, hO6.out⟩

set_option maxRecDepth 100000 in
set_option maxHeartbeats 4000000 in
theorem match_any (f n : ByteArray) (w : World) (hT : Tabs w) :
    Calls Tryz.prog 47 #[.string f, .string n] w fun e w' => e = .returned (.bool (mMatch f n)) ∧ Own [] w w' := by
  unfold mMatch
  have cF := filter_any f w hT
  have hpf := fun h => lvSized_pos (s := f) h
  have hpn := fun h => lvSized_pos (s := n) h
  have hfs : lvFilter f = true → lvSized f = true := fun h => by unfold lvFilter at h; rw [Bool.and_eq_true] at h; exact h.1
  have hns : lvName n = true → lvSized n = true := fun h => by unfold lvName at h; rw [Bool.and_eq_true] at h; exact h.1
  have cN := fun W (hT : Tabs W) => name_any n W hT
  generalize lvFilter f = bf at cF hfs ⊢
  generalize lvName n = bn at cN hns ⊢
  replace cF := Lib.hid cF
  replace cN := Lib.hid cN
  replace hT := Lib.hid hT
  cases bf
  · simp only [Bool.false_and]
    go_enter Tryz.func47, Tryz.ntmps47
    go_wp2_with (go_at_call 85; refine cF.out.mono ?_; rintro e w2 ⟨rfl, hO2⟩; replace hO2 := Lib.hid hO2)
    go_ret
    exact ⟨rfl, hO2.out⟩
  · cases bn
    · simp only [Bool.true_and, Bool.false_and]
      go_enter Tryz.func47, Tryz.ntmps47
      go_wp2_with (first
        | (go_at_call 85; refine cF.out.mono ?_; rintro e w2 ⟨rfl, hO2⟩; have hT2 := hT.out.own hO2 (by simp); replace hT2 := Lib.hid hT2; replace hO2 := Lib.hid hO2)
        | (go_at_call 58; refine (cN.out _ hT2.out).mono ?_; rintro e w3 ⟨rfl, hO3⟩; replace hO3 := Lib.hid (hO2.out.trans hO3)))
      go_ret
      exact ⟨rfl, hO3.out⟩
    · have h1 := hpf (hfs rfl)
      have h2 := hpn (hns rfl)
      have cB := fun W => begin_any f n W h1.1 h2.1
      have sF := fun W => split_any f W (by omega)
      have sN := fun W => split_any n W (by omega)
      have l1 : (levels f).length ≤ 1000 := by have := levels_len f; omega
      have l2 : (levels n).length ≤ 1000 := by have := levels_len n; omega
      have cA := fun va vb W ha hb => along_any (levels f) (levels n) va vb W l1 l2 ha hb
      simp only [Bool.true_and]
      clear hpf hpn hfs hns h1 h2 l1 l2
      generalize fWild f = b1 at cB ⊢
      generalize lvHidden n = b2 at cB ⊢
      generalize wants (levels f) (levels n) = ans at cA ⊢
      replace cB := Lib.hid cB
      replace sF := Lib.hid sF
      replace sN := Lib.hid sN
      replace cA := Lib.hid cA
      have hT0 := hT
      cases b1 <;> cases b2 <;> simp only [Bool.and_true, Bool.and_false, Bool.false_and, Bool.true_and, Bool.not_false, Bool.not_true]
      all_goals
        go_enter Tryz.func47, Tryz.ntmps47
        go_wp2_with (first
          | (go_at_call 85; refine cF.out.mono ?_; rintro e w2 ⟨rfl, hO2⟩; have hT2 := hT.out.own hO2 (by simp); replace hT2 := Lib.hid hT2; replace hO2 := Lib.hid hO2)
          | (go_at_call 58; refine (cN.out _ hT2.out).mono ?_; rintro e w3 ⟨rfl, hO3⟩; replace hO3 := Lib.hid (hO2.out.trans hO3))
          | (go_at_call 86; refine (cB.out _).mono ?_; rintro e w4 ⟨rfl, hO4⟩; replace hO4 := Lib.hid (hO3.out.trans hO4))
          | (go_at_call 24; ((with_reducible refine (sF.out w4).mono ?_); rintro e w5 ⟨v5, rfl, hS5, hO5⟩; replace hS5 := Lib.hid (hS5.reads lEnc_len); replace hO5 := Lib.hid hO5))
          | (go_at_call 24; ((with_reducible refine (sN.out w5).mono ?_); rintro e w6 ⟨v6, rfl, hS6, hO6⟩; have hA := cA.out v5 v6 w6 (hS5.out.nil' hO6) (hS6.reads lEnc_len); replace hA := Lib.hid hA; replace hO6 := Lib.hid (hO4.out.trans (hO5.out.trans hO6)); clear hS6))
          | (go_at_call 87; refine hA.out.mono ?_; rintro e w7 ⟨rfl, hO7⟩; replace hO7 := Lib.hid (hO6.out.trans hO7)))
        go_ret
        exact ⟨rfl, by first | exact hO7.out | exact hO4.out⟩
end Go.Proofs.YtecociaolohfmaaGreatDoor
