/- Package trie: its calls, by what it holds: New, Add, Drop, Of, Len. -/
import Derived.Test.YtldagaliddgdjaaGreatDoorTrieA
namespace Go.Proofs.YtldagaliddgdjaaGreatDoor
open Go.RowKit Go.Lib Go.Shelf Go.Sort

/-- What a call leaves: the trie, its blocks. -/
def Left (w : World) (t : Nat) (F : List Nat) (A' : Wishes) (w' : World) : Prop := ∃ F', TrieF w' t F' A' ∧ (∀ x ∈ F', x ∈ F ∨ w.heap.size ≤ x) ∧ Own F w w'
theorem Left.same {w w' : World} {t : Nat} {F : List Nat} {A : Wishes} (h : TrieF w t F A) (ho : Own [] w w') : Left w t F A w' := ⟨F, h.nil' ho, fun _ hx => .inl hx, ho.nil⟩

set_option maxRecDepth 100000 in
theorem tnew_any (w : World) : Calls Tryz.prog 4 #[] w fun e w' => ∃ t F, e = .returned (.pointer (some ⟨t, 0, none⟩)) ∧ TrieF w' t F (fun _ => []) ∧ (∀ x ∈ F, w.heap.size ≤ x) ∧ Own [] w w' := by
  have cF := fresh_any w
  replace cF := Lib.hid cF
  go_enter Tryz.func4, Tryz.ntmps4
  go_wp2_with (go_at_call 15; refine cF.out.mono ?_; rintro e w2 ⟨m, rfl, hm, hs, hw, hmf, hmd, hO2⟩; have hF := Lib.hid (And.intro hm (And.intro hs (And.intro hw (And.intro hmf (And.intro hmd hO2))))); clear hm hs hw hmf hmd hO2)
  go_ret
  obtain ⟨hm, hs, hw, hmf, hmd, hO2⟩ := hF.out
  have hA : Own [] w2 (w2.alloc (.cells #[.pointer (some ⟨m.blk, 0, none⟩), .int .i64 0, .int .i64 0, .int .i64 0, .int .i64 0, .int .i64 0, .int .i64 0, .int .i64 0, .int .i64 0] 48)) := (Own.refl _ _).alloc _
  have hfeet : feet [m] = m.foot := by simp [feet]
  have hnf : nFind [m] m.blk = some m := by unfold nFind; simp
  have hsub : ∀ e y, nSub [m] e y = none := fun e y => by
    unfold nSub nFind
    rw [List.find?_cons]
    cases hb : (m.blk == e) with
    | true => simp [hs, aGet]
    | false => simp
  have hreach : ∀ L e, reachN [m] m.blk L = some e → L = [] ∧ e = m.blk := fun L e h => by
    cases L with
    | nil => exact ⟨rfl, (Option.some.inj h).symm⟩
    | cons x r => rw [reachN_cons, hsub] at h; cases h
  have hwant : ∀ L k, want [m] m.blk L k = none := fun L k => by
    unfold want
    cases hr : reachN [m] m.blk L with
    | none => rfl
    | some e =>
      obtain ⟨_, rfl⟩ := hreach L e hr
      simp only [Option.bind_some]
      unfold whoN
      rw [hnf]
      simp [hw, aGet]
  refine ⟨w2.heap.size, w2.heap.size :: feet [m], rfl, ⟨m.blk, [m], [0, 0, 0, 0, 0, 0, 0, 0], rfl, ⟨⟨heap_alloc_new _ _, rfl, ⟨fun n hn => ?_, by rw [hfeet]; exact hmd⟩, ⟨m, List.mem_cons_self .., rfl⟩, fun n hn p hp => ?_, fun hx => ?_⟩, fun L1 L2 e h1 h2 => ?_, fun L e h => ?_, fun k => List.Pairwise.nil, fun k p hp => (by cases hp), fun _ _ => rfl, fun k s => hwant _ _, fun k L q h => ?_, fun k hk => ?_, fun k => by simp⟩⟩, ?_, (hO2.alloc _)⟩
  · obtain rfl : n = m := by simpa using hn
    exact hm.own hA (by simp)
  · obtain rfl : n = m := by simpa using hn
    rw [hs] at hp; cases hp
  · rw [hfeet] at hx
    have := hm.lt _ hx
    omega
  · rw [(hreach L1 e h1).1, (hreach L2 e h2).1]
  · rw [(hreach L e h).1]; simp
  · rw [hwant] at h; cases h
  · match k, hk with
    | 0, _ | 1, _ | 2, _ | 3, _ | 4, _ | 5, _ | 6, _ | 7, _ => rfl
  · intro x hx
    rcases List.mem_cons.1 hx with rfl | hx
    · exact hO2.size
    · rw [hfeet] at hx; exact hmf x hx

theorem int_nat {k : Int} (h : ¬ (k < 0 ∨ 8 ≤ k)) : ∃ n : Nat, k = n ∧ n < 8 := ⟨k.toNat, by omega, by omega⟩
/-! ### Drop -/
def tDrop (A : Wishes) (who : Int) (s : ByteArray) : Bool × Wishes :=
  if who < 0 ∨ 8 ≤ who then (false, A) else if (aGet (A who.toNat) s).isSome then (true, upd A who.toNat (aDel (A who.toNat) s)) else (false, A)
theorem tdrop_any (t : Nat) (F : List Nat) (A : Wishes) (who : Int) (s : ByteArray) (w : World) (h : TrieF w t F A) (hs : s.size ≤ 1048576) :
    Calls Tryz.prog 18 #[.pointer (some ⟨t, 0, none⟩), .int .i64 who, .string s] w fun e w' => e = .returned (.bool (tDrop A who s).1) ∧ Left w t F (tDrop A who s).2 w' := by
  have h0 := h
  obtain ⟨root, N, cnt, rfl, h⟩ := h
  unfold tDrop
  by_cases hk : who < 0 ∨ 8 ≤ who
  · rw [if_pos hk]
    refine (drop_unknown t root N cnt who s w h.trie hk).mono ?_
    rintro e w' ⟨rfl, rfl⟩
    exact ⟨rfl, Left.same h0 (Own.refl _ _)⟩
  · rw [if_neg hk]
    obtain ⟨k, rfl, hk8⟩ := int_nat hk
    rw [Int.toNat_natCast]
    cases hh : (aGet (A k) s).isSome with
    | false =>
      simp only [Bool.false_eq_true, if_false]
      refine (drop_not t root N cnt k s w h.trie hk8 hs (by rw [h.has]; exact hh)).mono ?_
      rintro e w' ⟨rfl, ho⟩
      exact ⟨rfl, Left.same h0 ho⟩
    | true =>
      simp only [if_true]
      refine (drop_yes t root N cnt k s w h.trie hk8 hs (by rw [h.has]; exact hh) h.cnts).mono ?_
      rintro e w' ⟨N', b, rfl, hP, hT, hft, hO⟩
      exact ⟨rfl, t :: feet N', ⟨root, N', _, rfl, h.dropped hk8 hh hP hT⟩, fun x hx => .inl (by rw [hft] at hx; exact hx), hO⟩

/-! ### Of -/
def tOf (A : Wishes) (who : Int) (R : List (ByteArray × Int)) : Prop := if who < 0 ∨ 8 ≤ who then R = [] else R.Perm (A who.toNat) ∧ Rises (·.1) R
theorem tof_any (t : Nat) (F : List Nat) (A : Wishes) (who : Int) (w : World) (h : TrieF w t F A) :
    Calls Tryz.prog 12 #[.pointer (some ⟨t, 0, none⟩), .int .i64 who] w fun e w' => ∃ v R, e = .returned v ∧ tOf A who R ∧ Sl 32 fEnc 2 w.heap.size w' v R ∧ Own [] w w' := by
  obtain ⟨root, N, cnt, rfl, h⟩ := h
  unfold tOf
  by_cases hk : who < 0 ∨ 8 ≤ who
  · refine (of_unknown t root N cnt who w h.trie hk).mono ?_
    rintro e w' ⟨rfl, rfl⟩
    exact ⟨_, [], rfl, by rw [if_pos hk], Sl.nil _ _ _, Own.refl _ _⟩
  · obtain ⟨k, rfl, hk8⟩ := int_nat hk
    have hall := h.all k
    have hlen : (allN N 13 root k).length ≤ 16 := by
      have := hall.length_eq
      rw [List.length_map] at this
      have := h.cap k
      omega
    refine (of_any t root N cnt k w h.trie hk8 (forest_keys h.trie.forest) h.low (by omega) (fun e he => ?_)).mono ?_
    · have hm := hall.subset (List.mem_map_of_mem (f := toF []) he)
      have hf := lvSized_pos (lvFilter_sized (h.filt k _ hm).1)
      simp only [toF, List.nil_append] at hf
      omega
    · rintro e w' ⟨v, R, rfl, hS, hp, hpw, hO⟩
      refine ⟨v, R, rfl, ?_, hS, hO⟩
      rw [if_neg hk, Int.toNat_natCast]
      have hp2 := hp.trans hall
      exact ⟨hp2, rises_of hpw ((hp2.map (·.1)).nodup_iff.2 (h.keys k))⟩
theorem tOf_len {A : Wishes} {who : Int} {R : List (ByteArray × Int)} (hA : ∀ k, (A k).length ≤ 16) (h : tOf A who R) : R.length ≤ 16 := by
  unfold tOf at h
  split at h
  · subst h; simp
  · rw [h.1.length_eq]; exact hA _
theorem TrieF.cap {w : World} {t : Nat} {F : List Nat} {A : Wishes} (h : TrieF w t F A) : ∀ k, (A k).length ≤ 16 := by
  obtain ⟨root, N, cnt, rfl, h⟩ := h; exact h.cap
theorem TrieF.keys {w : World} {t : Nat} {F : List Nat} {A : Wishes} (h : TrieF w t F A) : ∀ k, ((A k).map (·.1)).Nodup := by
  obtain ⟨root, N, cnt, rfl, h⟩ := h; exact h.keys
theorem TrieF.filt {w : World} {t : Nat} {F : List Nat} {A : Wishes} (h : TrieF w t F A) : ∀ k, ∀ p ∈ A k, lvFilter p.1 = true ∧ 0 ≤ p.2 ∧ p.2 ≤ 2 := by
  obtain ⟨root, N, cnt, rfl, h⟩ := h; exact h.filt
theorem TrieF.out {w : World} {t : Nat} {F : List Nat} {A : Wishes} (h : TrieF w t F A) : ∀ k, 8 ≤ k → A k = [] := by
  obtain ⟨root, N, cnt, rfl, h⟩ := h; exact h.out

/-! ### Len -/
def tLen (A : Wishes) : Nat := (A 0).length + (A 1).length + (A 2).length + (A 3).length + (A 4).length + (A 5).length + (A 6).length + (A 7).length
theorem tlen2_any (t : Nat) (F : List Nat) (A : Wishes) (w : World) (h : TrieF w t F A) :
    Calls Tryz.prog 6 #[.pointer (some ⟨t, 0, none⟩)] w fun e w' => e = .returned (.int .i64 (tLen A)) ∧ w = w' := by
  obtain ⟨root, N, cnt, rfl, h⟩ := h
  have hs : cnt.sum = (tLen A : Nat) := by
    have hl := h.trie.len
    match cnt, hl, h.cnt with
    | [a0, a1, a2, a3, a4, a5, a6, a7], _, hc =>
      have h0 := Option.some.inj (hc 0 (by omega))
      have h1 := Option.some.inj (hc 1 (by omega))
      have h2 := Option.some.inj (hc 2 (by omega))
      have h3 := Option.some.inj (hc 3 (by omega))
      have h4 := Option.some.inj (hc 4 (by omega))
      have h5 := Option.some.inj (hc 5 (by omega))
      have h6 := Option.some.inj (hc 6 (by omega))
      have h7 := Option.some.inj (hc 7 (by omega))
      unfold tLen
      simp only [List.sum_cons, List.sum_nil]
      subst h0 h1 h2 h3 h4 h5 h6 h7
      omega
  rw [← hs]
  exact tlen_any t root N cnt w h.trie h.cnts
end Go.Proofs.YtldagaliddgdjaaGreatDoor
