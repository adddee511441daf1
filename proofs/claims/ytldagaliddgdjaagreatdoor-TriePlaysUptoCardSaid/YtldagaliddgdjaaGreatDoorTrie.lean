/- Package trie: none, reach, has, fresh, grow. -/
import Derived.Test.YtldagaliddgdjaaGreatDoorMrg4
import Derived.Test.YtldagaliddgdjaaGreatDoorFilter
import Derived.Deep.LoopGhost
namespace Go.Proofs.YtldagaliddgdjaaGreatDoor
open Go.RowKit Go.Lib Go.Shelf

def cInts (l : List Int) : List Value := l.map (Value.int .i64)
structure Trie (w : World) (t root : Nat) (N : Nodes) (cnt : List Int) : Prop where
  row : w.heap[t]? = some (.cells (.pointer (some ⟨root, 0, none⟩) :: cInts cnt).toArray 48 (0, 0))
  len : cnt.length = 8
  forest : Forest w N
  has : Has N root
  closed : Closed' N
  out : t ∉ feet N
theorem Trie.own {S : List Nat} {w w' : World} {t root : Nat} {N : Nodes} {cnt : List Int} (h : Trie w t root N cnt) (ho : Own S w w') (ht : t ∉ S) (hn : ∀ x ∈ feet N, x ∉ S) : Trie w' t root N cnt :=
  ⟨ho.heap h.row ht, h.len, h.forest.own ho hn, h.has, h.closed, h.out⟩
theorem Trie.nil' {w w' : World} {t root : Nat} {N : Nodes} {cnt : List Int} (h : Trie w t root N cnt) (ho : Own [] w w') : Trie w' t root N cnt := h.own ho (by simp) (by simp)
theorem Trie.lt {w : World} {t root : Nat} {N : Nodes} {cnt : List Int} (h : Trie w t root N cnt) : t < w.heap.size := lt_of_heap h.row
theorem Trie.cell0 {w : World} {t root : Nat} {N : Nodes} {cnt : List Int} (h : Trie w t root N cnt) : w.cell? ⟨t, 0, none⟩ = some (.pointer (some ⟨root, 0, none⟩)) := cell_of_row w _ 0 _ _ _ h.row
theorem Trie.cellN {w : World} {t root : Nat} {N : Nodes} {cnt : List Int} (h : Trie w t root N cnt) {k : Nat} {v : Int} (hk : cnt[k]? = some v) : w.cell? ⟨t, k + 1, none⟩ = some (.int .i64 v) := by
  refine (cell_of_row w t (k + 1) _ _ _ h.row).trans ?_
  simp [cInts, hk]

theorem tnone_no (t : Nat) (root : Nat) (w : World) (h : w.cell? ⟨t, 0, none⟩ = some (.pointer (some ⟨root, 0, none⟩))) :
    Calls Tryz.prog 22 #[.pointer (some ⟨t, 0, none⟩)] w fun e w' => e = .returned (.bool false) ∧ w = w' := by
  go_enter Tryz.func22, Tryz.ntmps22
  go_wp2_with fail
  go_ret
  exact ⟨rfl, rfl⟩

set_option maxRecDepth 100000 in
set_option maxHeartbeats 4000000 in
theorem reach_any (t root : Nat) (N : Nodes) (cnt : List Int) (s : ByteArray) (w : World) (h : Trie w t root N cnt) (hs : s.size ≤ 1048576) :
    Calls Tryz.prog 58 #[.pointer (some ⟨t, 0, none⟩), .string s] w fun e w' => e = .returned (optP (reachN N root (levels s))) ∧ Own [] w w' := by
  have c0 := h.cell0
  have cP := Lib.hid (split_any s w hs)
  have hL : (levels s).length ≤ 1048577 := by have := levels_len s; omega
  have F := fun w' (ho : Own [] w w') => h.forest.nil' ho
  have hroot := h.has
  have hclosed := h.closed
  have hap := h.forest.apart
  clear h
  generalize hans : reachN N root (levels s) = ans
  generalize hLe : levels s = L at hans hL
  replace F := Lib.hid F
  replace hans := Lib.hid hans
  replace hLe := Lib.hid hLe
  replace hroot := Lib.hid hroot
  replace hclosed := Lib.hid hclosed
  replace hap := Lib.hid hap
  go_enter Tryz.func58, Tryz.ntmps58
  go_wp2_with (go_at_call 25; refine cP.out.mono ?_; rintro e w2 ⟨v, rfl, hSl, hb2⟩; rw [hLe.out] at hSl; have hR := hSl.reads lEnc_len; obtain ⟨aa, ca, rfl⟩ := hR.form; replace F := Lib.hid (F.out _ hb2); replace hb2 := Lib.hid hb2; clear hSl)
  go_loopg [5, 15] (L.length + 1) (fun g s5 s15 wr => ∃ i c : Nat, s5 = .pointer (some ⟨c, 0, none⟩) ∧ s15 = .int .i64 i ∧ g = L.length + 1 - i ∧ i ≤ L.length ∧ wr = w2 ∧ Aside (Has N c ∧ reachN N c (L.drop i) = ans))
  case atStart => exact ⟨0, root, rfl, rfl, rfl, Nat.zero_le _, rfl, hroot.out, hans.out⟩
  case round =>
    obtain ⟨i, c, rfl, rfl, hg, hi, hwr, hA⟩ := hrel
    have h2 := hwr.symm; subst h2
    obtain ⟨hc, hA⟩ := hA
    by_cases hlt : i < L.length
    · obtain ⟨x, hx⟩ : ∃ x, L[i]? = some x := ⟨_, List.getElem?_eq_getElem hlt⟩
      have hd : L.drop i = x :: L.drop (i + 1) := by
        rw [List.drop_eq_getElem_cons hlt]
        rw [List.getElem?_eq_getElem hlt] at hx
        rw [Option.some.inj hx]
      rw [hd] at hA
      obtain ⟨b0, o0, rfl, hca⟩ := hR.at_ lEnc_len (by omega)
      have hxc : w2.cell? ⟨b0, o0 + i, none⟩ = some (.string x) := by simpa using hca i x 0 _ hx rfl
      clear hca hd hx
      obtain ⟨n, hf, hn, rfl⟩ := hc.find hap.out
      have k0 := (F.out.at_ n hn).cells.1
      have lk := (F.out.at_ n hn).look x
      have hsub : nSub N n.blk x = aGet n.sub x := by unfold nSub; rw [hf]; rfl
      have hh := fun d (e : nSub N n.blk x = some d) => nSub_has hclosed.out e
      unfold reachN at hA
      rw [hsub] at hA hh
      clear hsub hf hc
      have hlt2 : (i : Int) < L.length := by omega
      have hi0 : (0 : Int) ≤ i := by omega
      have hw1 : IntKind.i64.wrap ((i : Int) + 1) = (i : Int) + 1 := IntWalk.i64_in _ (by omega)
      replace hg := Lib.hid hg
      generalize aGet n.sub x = r at lk hA hh
      cases r with
      | none =>
        simp only [optP] at lk
        replace hA := Lib.hid hA
        clear hh
        go_wp2_with fail
        go_ret
        exact ⟨by rw [← hA.out]; rfl, hb2.out⟩
      | some d =>
        simp only [optP] at lk
        simp only at hA
        have hd := Lib.hid (hh d rfl)
        replace hA := Lib.hid hA
        clear hh
        go_wp2_with fail
        go_roundg (L.length + 1 - (i + 1))
        case measure => have := hg.out; omega
        case rel => exact ⟨i + 1, d, rfl, by simp, rfl, by omega, rfl, hd.out, hA.out⟩
    · have hlt2 : ¬ (i : Int) < L.length := by omega
      rw [List.drop_eq_nil_of_le (by omega)] at hA
      unfold reachN at hA
      replace hA := Lib.hid hA
      replace hg := Lib.hid hg
      replace hc := Lib.hid hc
      go_wp2_with fail
      go_ret
      exact ⟨by rw [← hA.out]; rfl, hb2.out⟩

def FreshPost (w : World) (e : Ending) (w' : World) : Prop :=
  ∃ m : Node, e = .returned (.pointer (some ⟨m.blk, 0, none⟩)) ∧ NodeAt w' m ∧ m.sub = [] ∧ m.ws = [] ∧ (∀ x ∈ m.foot, w.heap.size ≤ x) ∧ m.foot.Nodup ∧ Own [] w w'
theorem fresh_any (w : World) : Calls Tryz.prog 15 #[] w (FreshPost w) := by
  have hmm := @run_makeMap Tryz.prog
  go_enter Tryz.func15, Tryz.ntmps15
  go_wp2_with fail
  go_ret
  have e1 : (((w.alloc (.map #[] 0)).alloc (.map #[] 0)).alloc (.cells #[.map (some w.heap.size), .map (some (w.heap.size + 1))] 79)).heap[w.heap.size]? = (w.alloc (.map #[] 0)).heap[w.heap.size]? :=
    (Below.heap_alloc _ _ _ (by simp; omega)).trans (Below.heap_alloc _ _ _ (by simp))
  have e2 : (((w.alloc (.map #[] 0)).alloc (.map #[] 0)).alloc (.cells #[.map (some w.heap.size), .map (some (w.heap.size + 1))] 79)).heap[w.heap.size + 1]? = ((w.alloc (.map #[] 0)).alloc (.map #[] 0)).heap[w.heap.size + 1]? :=
    Below.heap_alloc _ _ _ (by simp)
  refine ⟨⟨w.heap.size + 2, w.heap.size, w.heap.size + 1, [], []⟩, rfl, ⟨?_, ?_, ?_⟩, rfl, rfl, ?_, ?_, (((Own.refl _ _).alloc _).alloc _).alloc _⟩
  · have := heap_alloc_new ((w.alloc (.map #[] 0)).alloc (.map #[] 0)) (.cells #[.map (some w.heap.size), .map (some (w.heap.size + 1))] 79)
    simpa using this
  · exact (MapP.made w).of_heap e1
  · have := MapP.made (ek := Value.int .i64) (ev := Value.int .i64) (w.alloc (.map #[] 0))
    rw [World.size_alloc] at this
    exact this.of_heap e2
  · intro x hx
    simp [Node.foot] at hx
    omega
  · simp [Node.foot]

def GrowPost (N : Nodes) (root : Nat) (L : List ByteArray) (w : World) (e : Ending) (w' : World) : Prop :=
  ∃ N' c', e = .returned (.pointer (some ⟨c', 0, none⟩)) ∧ Grown N root L N' c' ∧ Forest w' N' ∧ Closed' N' ∧ Has N' c' ∧ (∀ d, Has N d → Has N' d) ∧ (∀ x ∈ feet N', x ∈ feet N ∨ w.heap.size ≤ x) ∧ Own (feet N) w w'
set_option maxRecDepth 100000 in
set_option maxHeartbeats 4000000 in
theorem grow_any (t root : Nat) (N : Nodes) (cnt : List Int) (s : ByteArray) (w : World) (h : Trie w t root N cnt) (hs : s.size ≤ 1048576) :
    Calls Tryz.prog 37 #[.pointer (some ⟨t, 0, none⟩), .string s] w (GrowPost N root (levels s) w) := by
  have c0 := h.cell0
  have cP := Lib.hid (split_any s w hs)
  have hL : (levels s).length ≤ 1048577 := by have := levels_len s; omega
  have cF := Lib.hid (fun W => fresh_any W)
  have hfl := h.forest.lt
  have hroot := h.has
  have hclosed := h.closed
  have hfor := h.forest
  clear h
  generalize hLe : levels s = L at hL ⊢
  replace hLe := Lib.hid hLe
  replace hfor := Lib.hid hfor
  replace hfl := Lib.hid hfl
  replace hroot := Lib.hid hroot
  replace hclosed := Lib.hid hclosed
  go_enter Tryz.func37, Tryz.ntmps37
  go_wp2_with (go_at_call 25; refine cP.out.mono ?_; rintro e w2 ⟨v, rfl, hSl, hb2⟩; rw [hLe.out] at hSl; have hSf := hSl.sl; obtain ⟨aa, ca, rfl⟩ := hSf; replace hSl := Lib.hid hSl; replace hb2 := Lib.hid hb2)
  go_loopg [5, 17] (L.length + 1) (fun g s5 s17 wr => ∃ i c : Nat, s5 = .pointer (some ⟨c, 0, none⟩) ∧ s17 = .int .i64 i ∧ g = L.length + 1 - i ∧ i ≤ L.length ∧ ∃ N1,
    Aside (Forest wr N1 ∧ Closed' N1 ∧ Has N1 c ∧ (∀ d, Has N d → Has N1 d) ∧ (∀ x ∈ feet N1, x ∈ feet N ∨ w2.heap.size ≤ x) ∧ Own (feet N) w2 wr ∧ (∀ N' c', Grown N1 c (L.drop i) N' c' → Grown N root L N' c')))
  case atStart => exact ⟨0, root, rfl, rfl, rfl, Nat.zero_le _, N, hfor.out.nil' hb2.out, hclosed.out, hroot.out, fun d h => h, fun x h => .inl h, Own.refl _ _, fun N' c' h => h⟩
  case round =>
    obtain ⟨i, c, rfl, rfl, hg, hi, N1, hA⟩ := hrel
    obtain ⟨hF, hC, hc, hH, hft, hO, hGr⟩ := hA
    by_cases hlt : i < L.length
    · obtain ⟨x, hx⟩ : ∃ x, L[i]? = some x := ⟨_, List.getElem?_eq_getElem hlt⟩
      have hd : L.drop i = x :: L.drop (i + 1) := by
        rw [List.drop_eq_getElem_cons hlt]
        rw [List.getElem?_eq_getElem hlt] at hx
        rw [Option.some.inj hx]
      rw [hd] at hGr
      have hR : Reads lEnc wr _ L := (hSl.out.own hO (fun b hb hn => by have := (hSl.out.block hb).1; have := hfl.out b hn; omega)).reads lEnc_len
      obtain ⟨b0, o0, rfl, hca⟩ := hR.at_ lEnc_len (by omega)
      have hxc : wr.cell? ⟨b0, o0 + i, none⟩ = some (.string x) := by simpa using hca i x 0 _ hx rfl
      clear hca hd hx hR
      obtain ⟨n, hf, hn, rfl⟩ := hc.find hF.apart
      have k0 := (hF.at_ n hn).cells.1
      have hnl := (hF.at_ n hn).lt n.blk (by simp [Node.foot])
      have lk := (hF.at_ n hn).look2 x
      have hsub : nSub N1 n.blk x = aGet n.sub x := by unfold nSub; rw [hf]; rfl
      have hh := fun d (e : nSub N1 n.blk x = some d) => nSub_has hC e
      have hlt2 : (i : Int) < L.length := by omega
      have hi0 : (0 : Int) ≤ i := by omega
      have hw1 : IntKind.i64.wrap ((i : Int) + 1) = (i : Int) + 1 := IntWalk.i64_in _ (by omega)
      replace hg := Lib.hid hg
      clear hf
      replace hF := Lib.hid hF
      replace hC := Lib.hid hC
      replace hc := Lib.hid hc
      replace hH := Lib.hid hH
      replace hft := Lib.hid hft
      replace hGr := Lib.hid hGr
      rw [hsub] at hh
      generalize aGet n.sub x = r at lk hsub hh
      cases r with
      | none =>
        simp only [optP, Option.isSome] at lk
        replace hsub := Lib.hid hsub
        have hn2 := Lib.hid hn
        replace hO := Lib.hid hO
        clear hh hn
        go_wp2_with fail
        refine (cF.out _).mono ?_
        rintro e w3 ⟨m, rfl, hm, hs, hw, hmf, hmd, hO3⟩
        have hF3 := hF.out.nil' hO3
        have hfd : (feet (m :: N1)).Nodup := by
          simp only [feet, List.flatMap_cons]
          rw [List.nodup_append]
          refine ⟨hmd, hF.out.apart, fun a ha b hb e => ?_⟩
          subst e
          have h1 := hmf a ha
          have h2 := hF.out.lt a hb
          omega
        have hF4 := hF3.cons hm hfd
        obtain ⟨w4, hup, hF5, hO5⟩ := hF4.put (List.mem_cons_of_mem _ hn2.out) x m.blk
        have k3 : w3.cell? ⟨n.blk, 0, none⟩ = some (.map (some n.bel)) := (hO3.cell hnl (by simp)).trans k0
        have hsz2 := hO.out.size
        have hO6 : Own (feet N) w2 w4 := by
          refine (hO.out.trans hO3.nil).trans' hO5 (fun y hy => ?_)
          simp at hy
          subst hy
          exact hft.out _ (foot_feet hn2.out (by simp [Node.foot]))
        have hFF := Lib.hid (And.intro hF5 (And.intro (closed_put (c := n.blk) (x := x) (closed_cons hC.out hs) (d := m.blk) ⟨m, List.mem_cons_self .., rfl⟩) (And.intro (has_put (c := n.blk) (x := x) (d := m.blk) (⟨m, List.mem_cons_self .., rfl⟩ : Has (m :: N1) m.blk))
          (And.intro (fun d (hd : Has N d) => has_put (c := n.blk) (x := x) (d := m.blk) (has_cons (m := m) (hH.out d hd))) (And.intro (fun y (hy : y ∈ feet (nPut (m :: N1) n.blk x m.blk)) => (by
            rw [feet_put] at hy
            simp only [feet, List.flatMap_cons, List.mem_append] at hy
            rcases hy with hy | hy
            · have := hmf y hy; exact .inr (by omega)
            · exact hft.out y hy : y ∈ feet N ∨ w2.heap.size ≤ y)) (And.intro hO6 (fun N' c' (hg2 : Grown (nPut (m :: N1) n.blk x m.blk) m.blk (L.drop (i + 1)) N' c') => hGr.out N' c' (Grown.new m hsub.out hs hw hfd hg2))))))))
        clear hm hs hw hmf hmd hF3 hfd hF4 hF5 hO5 hO6 hO3
        go_wp2_with fail
        go_roundg (L.length + 1 - (i + 1))
        case measure => have := hg.out; omega
        case rel => exact ⟨i + 1, m.blk, rfl, by simp, rfl, by omega, _, hFF.out⟩
      | some d =>
        simp only [optP, Option.isSome] at lk
        have hd := Lib.hid (hh d rfl)
        replace hsub := Lib.hid hsub
        replace hO := Lib.hid hO
        clear hh hn
        go_wp2_with fail
        go_roundg (L.length + 1 - (i + 1))
        case measure => have := hg.out; omega
        case rel => exact ⟨i + 1, d, rfl, by simp, rfl, by omega, N1, hF.out, hC.out, hd.out, hH.out, hft.out, hO.out, fun N' c' h => hGr.out N' c' (Grown.old hsub.out h)⟩
    · have hlt2 : ¬ (i : Int) < L.length := by omega
      rw [List.drop_eq_nil_of_le (by omega)] at hGr
      have hFin : Aside (Grown N root L N1 c ∧ Forest wr N1 ∧ Closed' N1 ∧ Has N1 c ∧ (∀ d, Has N d → Has N1 d) ∧ (∀ x ∈ feet N1, x ∈ feet N ∨ w.heap.size ≤ x) ∧ Own (feet N) w wr) :=
        ⟨hGr _ _ (Grown.nil _ _), hF, hC, hc, hH, fun x hx => (hft x hx).imp id (fun h => Nat.le_trans hb2.out.size h), hb2.out.nil.trans hO⟩
      clear hGr hF hC hc hH hft hO
      replace hg := Lib.hid hg
      go_wp2_with fail
      go_ret
      exact ⟨N1, c, rfl, hFin⟩
end Go.Proofs.YtldagaliddgdjaaGreatDoor
