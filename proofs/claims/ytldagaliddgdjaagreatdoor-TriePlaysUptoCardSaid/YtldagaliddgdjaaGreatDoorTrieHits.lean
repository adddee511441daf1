/- Package trie: Hits. -/
import Derived.Test.YtldagaliddgdjaaGreatDoorTrieKeys
import Derived.Test.YtldagaliddgdjaaGreatDoorTrieWalk
import Derived.Test.YtldagaliddgdjaaGreatDoorTrieLen
namespace Go.Proofs.YtldagaliddgdjaaGreatDoor
open Go.RowKit Go.Lib Go.Shelf Go.Maps Go.Sort

def hEnc (x : Int × Int) : List Value := [.int .i64 x.1, .int .i64 x.2]
theorem hEnc_len (x : Int × Int) : (hEnc x).length = 2 := rfl
theorem hitInfo : (Tryz.prog.info? 57).map (fun i => (i.zero, i.size, i.bytes)) = some (some (.agg #[.int .i64 0, .int .i64 0]), 2, 16) := by kernel_rfl
theorem hElem : Elem Tryz.prog 37 57 hEnc 2 16 where
  ut := Tryz.underlying37
  info := by obtain ⟨i, h1, h2, h3, h4⟩ := info_parts hitInfo; exact ⟨i, _, h1, h2, h3, h4, rfl⟩
  pos := by omega
  len := hEnc_len
  one x u hu := by simp [hEnc] at hu; rcases hu with rfl | rfl <;> rfl

theorem lit_wf {n : Int} (h : -9223372036854775808 ≤ n ∧ n ≤ 9223372036854775807) : (Lit.int .i64 n).wf = true := by
  have h1 : IntKind.i64.min = -9223372036854775808 := by decide
  have h2 : IntKind.i64.max = 9223372036854775807 := by decide
  simp only [Lit.wf, h1, h2, Bool.and_eq_true, decide_eq_true_eq]
  exact h
theorem nodup_le {α : Type} [BEq α] [LawfulBEq α] : ∀ {l L : List α}, l.Nodup → (∀ x ∈ l, x ∈ L) → l.length ≤ L.length
  | [], L, _, _ => Nat.zero_le _
  | x :: r, L, hn, hs => by
    rw [List.nodup_cons] at hn
    have hx : x ∈ L := hs x (List.mem_cons_self ..)
    have := nodup_le (l := r) (L := L.erase x) hn.2 (fun y hy => (List.mem_erase_of_ne (by rintro rfl; exact hn.1 hy)).2 (hs y (List.mem_cons_of_mem _ hy)))
    rw [List.length_erase_of_mem hx] at this
    have := List.length_pos_of_mem hx
    simp
    omega
theorem small_len {B : List (Int × Int)} (hn : (B.map (·.1)).Nodup) (hb : ∀ p ∈ B, 0 ≤ p.1 ∧ p.1 < 8) : B.length ≤ 8 := by
  have := nodup_le (L := [0, 1, 2, 3, 4, 5, 6, 7]) hn (fun x hx => by
    obtain ⟨p, hp, rfl⟩ := List.mem_map.1 hx
    have := hb p hp
    simp
    omega)
  simpa using this
theorem mem_get {l : List (Int × Int)} (hn : (l.map (·.1)).Nodup) {k q : Int} : (k, q) ∈ l ↔ aGet l k = some q := by
  constructor
  · intro h
    unfold aGet
    induction l with
    | nil => cases h
    | cons p r ih =>
      rw [List.map_cons, List.nodup_cons] at hn
      rw [List.find?_cons]
      by_cases hp : p.1 = k
      · rw [show (p.1 == k) = true by simpa using hp]
        rcases List.mem_cons.1 h with rfl | h
        · rfl
        · exact absurd (List.mem_map_of_mem (f := (·.1)) h) (by rw [← hp]; exact hn.1)
      · rw [show (p.1 == k) = false by simpa using hp]
        rcases List.mem_cons.1 h with rfl | h
        · exact absurd rfl hp
        · exact ih hn.2 h
  · intro h
    exact aGet_mem h
def HitsPost (R : Int → Option Int) (w : World) (e : Ending) (w' : World) : Prop :=
  ∃ v hs, e = .returned v ∧ Sl 57 hEnc 2 w.heap.size w' v hs ∧ hs.Pairwise (fun a b => a.1 < b.1) ∧ (∀ k q, (k, q) ∈ hs ↔ R k = some q) ∧ hs.length ≤ 8 ∧ Own [] w w'
theorem hits_list {B : List (Int × Int)} {ks : List Int} {R : Int → Option Int} (hn : (B.map (·.1)).Nodup) (hR : ∀ k, aGet B k = R k) (hp : ks.Perm (B.map (·.1))) (hs : ks.Pairwise fun a b => a ≤ b) :
    ((ks.map fun k => (k, (aGet B k).getD 0)).Pairwise fun a b => a.1 < b.1) ∧ (∀ k q, (k, q) ∈ (ks.map fun k => (k, (aGet B k).getD 0)) ↔ R k = some q) := by
  constructor
  · rw [List.pairwise_map]
    have hk : ks.Nodup := hp.nodup_iff.2 hn
    exact (hs.and hk).imp (fun {a b} h => by have := h.1; have := h.2; show a < b; omega)
  · intro k q
    rw [← hR, List.mem_map]
    constructor
    · rintro ⟨k', hk', he⟩
      cases he
      obtain ⟨p, hp1, rfl⟩ := List.mem_map.1 (hp.subset hk')
      rw [(mem_get hn (k := p.1) (q := p.2)).1 hp1]
      rfl
    · intro h
      refine ⟨k, hp.symm.subset (List.mem_map_of_mem (f := (·.1)) (aGet_mem h)), by rw [h]; rfl⟩

set_option maxRecDepth 100000 in
theorem hits_bad (t root : Nat) (N : Nodes) (cnt : List Int) (s : ByteArray) (w : World) (h : Trie w t root N cnt) (hT : Tabs w) (hs : lvName s = false) :
    Calls Tryz.prog 9 #[.pointer (some ⟨t, 0, none⟩), .string s] w fun e w' => e = .returned (.slice none 0 0) ∧ Own [] w w' := by
  have c0 := h.cell0
  have cN := name_any s w hT
  rw [hs] at cN
  replace cN := Lib.hid cN
  clear h hT hs
  go_enter Tryz.func9, Tryz.ntmps9
  go_wp2_with (first
    | (go_at_call 22; refine (tnone_no t root _ c0).mono ?_; rintro e w' ⟨rfl, rfl⟩)
    | (go_at_call 23; refine cN.out.mono ?_; rintro e w2 ⟨rfl, hO2⟩))
  go_ret
  exact ⟨rfl, hO2⟩

set_option maxRecDepth 100000 in
set_option maxHeartbeats 4000000 in
theorem hits_any (t root : Nat) (N : Nodes) (cnt : List Int) (s : ByteArray) (w : World) (h : Trie w t root N cnt) (hT : Tabs w) (hs : lvName s = true) (hb : ∀ k, walkU N (levels s) (some root) (!lvHidden s) k none ≠ none → 0 ≤ k ∧ k < 8) :
    Calls Tryz.prog 9 #[.pointer (some ⟨t, 0, none⟩), .string s] w (HitsPost (fun k => walkU N (levels s) (some root) (!lvHidden s) k none) w) := by
  have hsz := lvSized_pos (s := s) (by unfold lvName at hs; rw [Bool.and_eq_true] at hs; exact hs.1)
  have hL : (levels s).length ≤ 1000 := by have := levels_len s; omega
  have hmm := @run_makeMap Tryz.prog
  have c0 := h.cell0
  have cN := name_any s w hT
  rw [hs] at cN
  have cS := fun W => split_any s W (by omega)
  have cH := fun W => hidden_any s W hsz.1
  have hfl := h.forest.lt
  have cW := fun wide mb (hmb : w.heap.size ≤ mb) v W (ho : Own [mb] w W) (hR : Sl 9 lEnc 1 w.heap.size W v (levels s)) (hvb : ∀ b, v.ownBlock = some b → b ≠ mb) (hB : MapP (Value.int .i64) (Value.int .i64) W mb []) =>
    walk_any N mb (fun hx => by have := hfl mb hx; omega) h.closed (levels s) (some root) wide v W [] hL (hR.reads lEnc_len) hR.capOk hvb (h.forest.own ho (fun x hx e => by simp at e; subst e; have := hfl x hx; omega)) (fun c e => by cases e; exact h.has) hB
  have cT := fun mb (hmb : w.heap.size ≤ mb) W (ho : Own [mb] w W) => ((ho.cell (p := ⟨t, 0, none⟩) h.lt (by simp; have := h.lt; omega)).trans c0 : W.cell? ⟨t, 0, none⟩ = some (.pointer (some ⟨root, 0, none⟩)))
  unfold BestPost at cW
  have e0 : ∀ k, aGet ([] : List (Int × Int)) k = none := fun _ => rfl
  simp only [e0, optP] at cW
  generalize hRd : (fun k => walkU N (levels s) (some root) (!lvHidden s) k none) = R at *
  have hRb : ∀ k, R k ≠ none → 0 ≤ k ∧ k < 8 := fun k => by rw [← hRd]; exact hb k
  have cW' := cW (!lvHidden s)
  have hRe : ∀ k, walkU N (levels s) (some root) (!lvHidden s) k none = R k := fun k => by rw [← hRd]
  simp only [hRe] at cW'
  clear cW hRd hb hRe
  generalize lvHidden s = hid at cW' cH
  replace cN := Lib.hid cN
  replace cS := Lib.hid cS
  replace cH := Lib.hid cH
  replace cW' := Lib.hid cW'
  replace cT := Lib.hid cT
  replace hRb := Lib.hid hRb
  clear h hT hs hsz hL hfl
  go_enter Tryz.func9, Tryz.ntmps9
  go_wp2_with (first
    | (go_at_call 22; refine (tnone_no t root _ c0).mono ?_; rintro e w' ⟨rfl, rfl⟩)
    | (go_at_call 23; refine cN.out.mono ?_; rintro e w2 ⟨rfl, hO2⟩; replace hO2 := Lib.hid hO2))
  have hA : Own [w2.heap.size] w (w2.alloc (.map #[] 0)).drew := (hO2.out.nil.alloc _).drew
  have hB0 : MapP (Value.int .i64) (Value.int .i64) (w2.alloc (.map #[] 0)).drew w2.heap.size [] := (MapP.made w2).own (Own.refl [] _).drew (by simp)
  have hmw : w.heap.size ≤ w2.heap.size := hO2.out.size
  have cW2 := cW'.out w2.heap.size hmw
  have cT2 := cT.out w2.heap.size hmw
  have c2 := cT2 _ hA
  have hmz : (w2.alloc (.map #[] 0)).drew.heap.size = w2.heap.size + 1 := by simp
  obtain ⟨mb, hmb⟩ : ∃ mb, w2.heap.size = mb := ⟨_, rfl⟩
  rw [hmb] at cW2 cT2 hA hB0 hmw hmz
  rw [hmb]
  replace hA := Lib.hid hA
  replace hB0 := Lib.hid hB0
  replace hmb := Lib.hid hmb
  replace cW2 := Lib.hid cW2
  replace cT2 := Lib.hid cT2
  replace hmz := Lib.hid hmz
  clear cW' cT
  go_region_held3 (fun W => W.cell? ⟨t, 0, none⟩ = some (.pointer (some ⟨root, 0, none⟩)))
    (first | exact c2 | exact kA | exact kB | go_keep)
    ((first
      | (go_at_call 25; refine (cS.out _).mono ?_; rintro e wa ⟨va, rfl, hSa, hOa⟩; have hva : ∀ b, va.ownBlock = some b → b ≠ mb := fun b hb => (by have h1 := (hSa.block hb).1; have h2 := hmz.out; omega); have hBa := hB0.out.own hOa (by simp); have hOa2 := hA.out.trans hOa.nil; have kA := cT2.out wa hOa2; have hWk := cW2.out va wa hOa2 (hSa.mono (by have h2 := hmz.out; omega)) hva hBa; replace hWk := Lib.hid hWk; replace hOa2 := Lib.hid hOa2; clear hSa hOa hva hBa)
      | (go_at_call 26; refine (cH.out _).mono ?_; rintro e wx ⟨rfl, rfl⟩)
      | (go_at_call 24; refine hWk.out.mono ?_; rintro e wb ⟨rfl, B, hB, hBR, hOb⟩; replace hOb := hOa2.out.trans hOb; have kB := cT2.out wb hOb; replace hOb := Lib.hid hOb; replace hB := Lib.hid hB; replace hBR := Lib.hid hBR)))
  all_goals
    have hnd := hB.out.nodup whoK
    have hsm : ∀ p ∈ B, 0 ≤ p.1 ∧ p.1 < 8 := fun p hp => hRb.out p.1 (by rw [← hBR.out, (mem_get hnd (k := p.1) (q := p.2)).1 hp]; simp)
    have hlen := small_len hnd hsm
    have hwf : ∀ p ∈ B, (Lit.int .i64 p.1).wf = true := fun p hp => by have := hsm p hp; exact lit_wf (by omega)
    have cK := keys_call (some mb) wb
    have cSo := sorted_call mb B wb hB.out hwf (by omega)
    replace cK := Lib.hid cK
    replace cSo := Lib.hid cSo
    replace hnd := Lib.hid hnd
    clear hwf hsm
    go_wp2_with fail
    refine cK.out.mono ?_
    rintro e w' ⟨rfl, rfl⟩
    go_wp2_with fail
    refine cSo.out.mono ?_
    rintro e w7 ⟨v7, ks, rfl, hpk, hsk, hRk, hO7⟩
    have hHL := hits_list hnd.out hBR.out hpk hsk
    have hkl : ks.length ≤ 8 := by rw [hpk.length_eq, List.length_map]; exact hlen
    have hB7 := (hB.out.own ((Own.refl [] wb).alloc (.cells #[.map (some mb)] 60)) (by simp)).own hO7 (by simp)
    have hO8 : Own [mb] w w7 := (hOb.out.alloc _).trans hO7.nil
    obtain ⟨ak, ck, rfl⟩ := hRk.form
    obtain ⟨n, hn⟩ : ∃ n, ks.length = n := ⟨_, rfl⟩
    rw [hn] at hkl hRk ⊢
    replace hn := Lib.hid hn
    replace hHL := Lib.hid hHL
    replace hB7 := Lib.hid hB7
    replace hO8 := Lib.hid hO8
    replace hRk := Lib.hid hRk
    clear cK cSo hpk hsk hO7 hlen
    go_wp2_with fail
    go_loopg [6, 8, 32] (n + 1) (fun g s6 s8 s32 wr => ∃ (i : Nat) (T : List (Int × Int)), s32 = .int .i64 i ∧ g = n + 1 - i ∧ i ≤ n ∧ T.length ≤ i ∧ Own [] w7 wr ∧ Sl 57 hEnc 2 w7.heap.size wr s6 T ∧ Aside (T = (ks.take i).map fun k => (k, (aGet B k).getD 0)))
    case atStart => exact ⟨0, [], rfl, rfl, Nat.zero_le _, Nat.le_refl _, Own.refl _ _, Sl.nil _ _ _, (rfl : [] = List.map _ (List.take 0 ks))⟩
    case round =>
      obtain ⟨i, T, rfl, hg, hi, hTl, hO, hS, hA⟩ := hrel
      replace hA : T = (ks.take i).map fun k => (k, (aGet B k).getD 0) := hA
      obtain ⟨sa, sc, hsv⟩ := hS.sl
      subst hsv
      have hw1 : IntKind.i64.wrap ((i : Int) + 1) = (i : Int) + 1 := IntWalk.i64_in _ (by omega)
      by_cases hlt : i < n
      · have hlk : i < ks.length := by have := hn.out; omega
        obtain ⟨x, hx⟩ : ∃ x, ks[i]? = some x := ⟨_, List.getElem?_eq_getElem hlk⟩
        have hRr := hRk.out.nil' hO
        rw [← hn.out] at hRr
        obtain ⟨b0, o0, rfl, hca⟩ := hRr.at_ iL_len (by omega)
        have d0 : wr.cell? ⟨b0, o0 + i, none⟩ = some (.int .i64 x) := by simpa using hca i x 0 _ hx rfl
        have lk := (hB7.out.own hO (by simp)).lookI x
        have hT2 : T ++ [(x, (aGet B x).getD 0)] = (ks.take (i + 1)).map fun k => (k, (aGet B k).getD 0) := by
          obtain ⟨hi2, hx2⟩ := List.getElem?_eq_some_iff.1 hx
          rw [List.take_succ_eq_append_getElem hi2, List.map_append, hA, hx2]
          rfl
        have hi1 : (i : Int) < n := by omega
        have hi0 : (0 : Int) ≤ i := by omega
        generalize (aGet B x).getD 0 = q at lk hT2
        have hOb2 := hO.alloc (.cells #[.int .i64 x, .int .i64 q] 57)
        have hSb := hS.nil' ((Own.refl [] wr).alloc (.cells #[.int .i64 x, .int .i64 q] 57))
        have hRb2 := Reads.new (enc := hEnc) (T := 57) wr (x, q) 1
        replace hOb2 := Lib.hid hOb2
        replace hSb := Lib.hid hSb
        replace hRb2 := Lib.hid hRb2
        replace hT2 := Lib.hid hT2
        replace hg := Lib.hid hg
        clear hca hRr hx hlk hA hS hO
        go_wp2_with (at_builtin; refine wpList_append_new rfl (.tmp 36) (.tmp 42) rfl hElem hOb2.out rfl hSb.out rfl hRb2.out (by simp only [List.length_singleton]; omega) (by unfold maxLen; simp only [List.length_singleton]; omega) ?_; intro va2 w5 hS5 hO5 _ _; obtain ⟨a2, c2, rfl⟩ := hS5.sl; rw [List.length_append, List.length_singleton] at hS5; replace hS5 := Lib.hid hS5; replace hO5 := Lib.hid hO5)
        go_roundg (n + 1 - (i + 1))
        case measure => have := hg.out; omega
        case rel => exact ⟨i + 1, T ++ [(x, q)], by simp, rfl, by omega, by simp; omega, hO5.out, hS5.out, hT2.out⟩
      · obtain rfl : i = n := by omega
        have hi1 : ¬ (i : Int) < i := by omega
        rw [List.take_of_length_le (by have := hn.out; omega)] at hA
        have hend : HitsPost R w (.returned (.slice sa T.length sc)) wr := by
          refine ⟨_, T, rfl, hS.mono (by have := hO8.out.size; exact this), by rw [hA]; exact hHL.out.1, by rw [hA]; exact hHL.out.2, by omega, ?_⟩
          exact (hO8.out.trans hO.nil).weaken (fun x hx => .inr (by simp at hx; subst hx; exact hmw))
        replace hend := Lib.hid hend
        replace hg := Lib.hid hg
        clear hA hS hO
        go_wp2_with fail
        go_ret
        exact hend.out
end Go.Proofs.YtldagaliddgdjaaGreatDoor
