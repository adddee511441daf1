/- Package trie: what it holds: who wants what. -/
import Derived.Test.YtldagaliddgdjaaGreatDoorTrieOf
namespace Go.Proofs.YtldagaliddgdjaaGreatDoor
open Go.RowKit Go.Lib Go.Shelf Go.Sort

abbrev Wishes := Nat → List (ByteArray × Int)
structure TrieA (w : World) (t root : Nat) (N : Nodes) (cnt : List Int) (A : Wishes) : Prop where
  trie : Trie w t root N cnt
  way : OneWay N root
  low : Low N root 12
  keys : ∀ k, ((A k).map (·.1)).Nodup
  filt : ∀ k, ∀ p ∈ A k, lvFilter p.1 = true ∧ 0 ≤ p.2 ∧ p.2 ≤ 2
  out : ∀ k, 8 ≤ k → A k = []
  want : ∀ (k : Nat) (s : ByteArray), want N root (levels s) k = aGet (A k) s
  only : ∀ (k : Int) L q, Go.Proofs.YtldagaliddgdjaaGreatDoor.want N root L k = some q → ∃ n : Nat, k = n ∧ n < 8 ∧ ∃ s, levels s = L
  cnt : ∀ k, k < 8 → cnt[k]? = some ((A k).length : Int)
  cap : ∀ k, (A k).length ≤ 16
/-- A trie, its blocks, what it holds. -/
def TrieF (w : World) (t : Nat) (F : List Nat) (A : Wishes) : Prop := ∃ root N cnt, F = t :: feet N ∧ TrieA w t root N cnt A
theorem TrieA.own {S : List Nat} {w w' : World} {t root : Nat} {N : Nodes} {cnt : List Int} {A : Wishes} (h : TrieA w t root N cnt A) (ho : Own S w w') (ht : t ∉ S) (hn : ∀ x ∈ feet N, x ∉ S) : TrieA w' t root N cnt A :=
  ⟨h.trie.own ho ht hn, h.way, h.low, h.keys, h.filt, h.out, h.want, h.only, h.cnt, h.cap⟩
theorem TrieF.own {S : List Nat} {w w' : World} {t : Nat} {F : List Nat} {A : Wishes} (h : TrieF w t F A) (ho : Own S w w') (hn : ∀ x ∈ F, x ∉ S) : TrieF w' t F A := by
  obtain ⟨root, N, cnt, rfl, h⟩ := h
  exact ⟨root, N, cnt, rfl, h.own ho (hn t (List.mem_cons_self ..)) (fun x hx => hn x (List.mem_cons_of_mem _ hx))⟩
theorem TrieF.nil' {w w' : World} {t : Nat} {F : List Nat} {A : Wishes} (h : TrieF w t F A) (ho : Own [] w w') : TrieF w' t F A := h.own ho (by simp)
theorem TrieF.lt {w : World} {t : Nat} {F : List Nat} {A : Wishes} (h : TrieF w t F A) : ∀ x ∈ F, x < w.heap.size := by
  obtain ⟨root, N, cnt, rfl, h⟩ := h
  intro x hx
  rcases List.mem_cons.1 hx with rfl | hx
  · exact h.trie.lt
  · exact h.trie.forest.lt x hx
theorem forest_keys {w : World} {N : Nodes} (h : Forest w N) : KeysN N := fun n hn => ⟨(h.at_ n hn).sub.nodup subK, (h.at_ n hn).ws.nodup whoK⟩

theorem lvFilter_sized {s : ByteArray} (h : lvFilter s = true) : lvSized s = true := by
  unfold lvFilter at h; rw [Bool.and_eq_true] at h; exact h.1
theorem cutL_count' : ∀ l : List UInt8, (cutL l).length = l.count 47 + 1
  | [] => rfl
  | c :: r => by
    have ih := cutL_count' r
    rw [cutL_cons]
    by_cases h : c = 47
    · subst h
      rw [if_pos rfl, List.length_cons, ih, List.count_cons_self]
    · rw [if_neg h, List.count_cons_of_ne h]
      cases hr : cutL r with
      | nil => exact absurd hr (cutL_ne r)
      | cons y t => rw [hr] at ih; simpa using ih
theorem levels_few {s : ByteArray} (h : lvSized s = true) : (levels s).length ≤ 12 := by
  unfold lvSized at h
  rw [Bool.and_eq_true] at h
  have h2 : countByte s.data.toList 47 < 12 := by simpa using h.2
  unfold levels
  rw [List.length_map, cutL_count', Lib.toList_data]
  unfold countByte at h2
  omega
def upd (A : Wishes) (k : Nat) (l : List (ByteArray × Int)) : Wishes := fun j => if j = k then l else A j
theorem aPutG_len {κ α : Type} [BEq κ] [LawfulBEq κ] (l : List (κ × α)) (k : κ) (v : α) : (aPut l k v).length = if (aGet l k).isSome then l.length else l.length + 1 := by
  induction l with
  | nil => simp [aPut, aGet]
  | cons p r ih =>
    unfold aPut
    by_cases hk : p.1 == k
    · simp [hk, aGet]
    · simp only [hk, Bool.false_eq_true, if_false, List.length_cons]
      rw [ih]
      have : aGet (p :: r) k = aGet r k := by simp [aGet, hk]
      rw [this]
      split <;> rfl
theorem aPutG_nodup {κ α : Type} [BEq κ] [LawfulBEq κ] {l : List (κ × α)} (hn : (l.map (·.1)).Nodup) (k : κ) (v : α) : ((aPut l k v).map (·.1)).Nodup := by
  have h := ((aPut_perm hn k v).map (·.1)).nodup_iff
  rw [h, List.map_cons, List.nodup_cons]
  refine ⟨fun hm => ?_, (List.filter_sublist.map _).nodup hn⟩
  obtain ⟨p, hp, e⟩ := List.mem_map.1 hm
  have := (List.mem_filter.1 hp).2
  simp [e] at this
theorem aDelG_len {κ α : Type} [BEq κ] [LawfulBEq κ] {l : List (κ × α)} (hn : (l.map (·.1)).Nodup) {k : κ} (h : (aGet l k).isSome = true) : (aDel l k).length + 1 = l.length := by
  obtain ⟨v, hv⟩ := Option.isSome_iff_exists.1 h
  have h1 := (aPut_perm hn k v).length_eq
  rw [aPutG_len, if_pos h, List.length_cons] at h1
  omega

/-! ### adding -/
/-- What adding comes to. -/
def tAdd (A : Wishes) (who : Int) (s : ByteArray) (q : Int) : (Bool × Int) × Wishes :=
  if who < 0 ∨ 8 ≤ who then ((false, 1), A)
  else if lvFilter s = false then ((false, 14), A)
  else if q < 0 ∨ 2 < q then ((false, 5), A)
  else if (aGet (A who.toNat) s).isSome = false ∧ 16 ≤ (A who.toNat).length then ((false, 6), A)
  else (((aGet (A who.toNat) s).isSome, 0), upd A who.toNat (aPut (A who.toNat) s q))
theorem TrieA.has {w : World} {t root : Nat} {N : Nodes} {cnt : List Int} {A : Wishes} (h : TrieA w t root N cnt A) (k : Nat) (s : ByteArray) : hasN N root (levels s) k = (aGet (A k) s).isSome := by
  rw [← h.want]
  unfold hasN Go.Proofs.YtldagaliddgdjaaGreatDoor.want
  cases reachN N root (levels s) <;> rfl
theorem TrieA.cntD {w : World} {t root : Nat} {N : Nodes} {cnt : List Int} {A : Wishes} (h : TrieA w t root N cnt A) {k : Nat} (hk : k < 8) : cnt.getD k 0 = (A k).length := by
  rw [List.getD_eq_getElem?_getD, h.cnt k hk]; rfl
theorem TrieA.cnts {w : World} {t root : Nat} {N : Nodes} {cnt : List Int} {A : Wishes} (h : TrieA w t root N cnt A) : ∀ v ∈ cnt, 0 ≤ v ∧ v ≤ 1000 := by
  intro v hv
  obtain ⟨i, hi, rfl⟩ := List.getElem_of_mem hv
  have hl := h.trie.len
  have := h.cnt i (by omega)
  rw [List.getElem?_eq_getElem hi] at this
  have h2 := h.cap i
  rw [Option.some.inj this]
  omega
theorem TrieA.added {w w' : World} {t root : Nat} {N N' : Nodes} {cnt : List Int} {A : Wishes} (h : TrieA w t root N cnt A) {k : Nat} (hk : k < 8) {s : ByteArray} (hs : lvFilter s = true) {q : Int} (hq : 0 ≤ q ∧ q ≤ 2) {c' : Nat} (hr : (aGet (A k) s).isSome = true ∨ (A k).length < 16)
    (hG : Grown N root (levels s) N' c') (hT : Trie w' t root (nWho N' c' k q) (cntPut cnt k (hasN N root (levels s) k))) : TrieA w' t root (nWho N' c' k q) (cntPut cnt k (hasN N root (levels s) k)) (upd A k (aPut (A k) s q)) := by
  obtain ⟨g1, g2, g3, g4, g5, g6⟩ := grown_sem hG h.trie.closed h.trie.has h.way (reachN_nil N root)
  rw [List.nil_append] at g4 g6
  have hfe : (feet N').Nodup := by have := hT.forest.apart; rwa [feet_who] at this
  have hw := want_who g1 g2 g3 g4 hfe k q
  refine ⟨hT, way_who g3, low_who (g6 12 h.low (levels_few (lvFilter_sized hs))), fun j => ?_, fun j p hp => ?_, fun j hj => ?_, fun j s2 => ?_, fun j L v hv => ?_, fun j hj => ?_, fun j => ?_⟩
  · unfold upd; split
    · exact aPutG_nodup (h.keys k) _ _
    · exact h.keys j
  · unfold upd at hp; split at hp
    · rcases aPut_memG hp with rfl | hp
      · exact ⟨hs, hq⟩
      · exact h.filt k p hp
    · exact h.filt j p hp
  · unfold upd; rw [if_neg (by omega)]; exact h.out j hj
  · rw [hw, g5, h.want]
    unfold upd
    by_cases hj : j = k
    · subst hj
      rw [if_pos rfl, aGet_putG]
      by_cases hss : s2 = s
      · subst hss; rw [if_pos ⟨rfl, rfl⟩, if_pos rfl]
      · rw [if_neg (fun e => hss (levels_inj e.1)), if_neg hss]
    · rw [if_neg (fun e => hj (by have := e.2; omega)), if_neg hj]
  · rw [hw, g5] at hv
    by_cases hc : L = levels s ∧ j = (k : Int)
    · exact ⟨k, hc.2, hk, s, hc.1.symm⟩
    · rw [if_neg hc] at hv
      exact h.only j L v hv
  · rw [h.has]
    unfold cntPut upd
    cases hb : (aGet (A k) s).isSome with
    | true =>
      simp only [if_true]
      by_cases hjk : j = k
      · subst hjk
        rw [if_pos rfl, aPutG_len, hb, if_pos rfl]; exact h.cnt j hj
      · rw [if_neg hjk]; exact h.cnt j hj
    | false =>
      simp only [Bool.false_eq_true, if_false]
      rw [h.cntD hk]
      by_cases hjk : j = k
      · subst hjk
        rw [if_pos rfl, List.getElem?_set_self (by rw [h.trie.len]; exact hj), aPutG_len, hb]
        simp
      · rw [if_neg hjk, List.getElem?_set_ne (fun e => hjk e.symm)]; exact h.cnt j hj
  · unfold upd; split
    · rw [aPutG_len]
      rcases hr with hr | hr
      · rw [if_pos hr]; exact h.cap k
      · split <;> omega
    · exact h.cap j
theorem TrieA.dropped {w w' : World} {t root : Nat} {N N' : Nodes} {cnt : List Int} {A : Wishes} (h : TrieA w t root N cnt A) {k : Nat} (hk : k < 8) {s : ByteArray} (hs : (aGet (A k) s).isSome = true) {b : Bool} (hP : Pruned k N root (levels s) N' b) (hT : Trie w' t root N' (cnt.set k (cnt.getD k 0 - 1))) :
    TrieA w' t root N' (cnt.set k (cnt.getD k 0 - 1)) (upd A k (aDel (A k) s)) := by
  obtain ⟨g1, g2, g3, g4, g5, g6⟩ := pruned_sem hP h.trie.closed h.trie.has h.way (reachN_nil N root) (by rw [List.nil_append, h.want]; exact hs)
  rw [List.nil_append] at g6
  refine ⟨hT, g3, fun L e he => h.low L e (g4 L e he), fun j => ?_, fun j p hp => ?_, fun j hj => ?_, fun j s2 => ?_, fun j L v hv => ?_, fun j hj => ?_, fun j => ?_⟩
  · unfold upd; split
    · exact (List.filter_sublist.map _).nodup (h.keys k)
    · exact h.keys j
  · unfold upd at hp; split at hp
    · exact h.filt k p (List.mem_filter.1 hp).1
    · exact h.filt j p hp
  · unfold upd; rw [if_neg (by omega)]; exact h.out j hj
  · rw [g6, h.want]
    unfold upd
    by_cases hj : j = k
    · subst hj
      rw [if_pos rfl, aGet_delG]
      by_cases hss : s2 = s
      · subst hss; rw [if_pos ⟨rfl, rfl⟩, if_pos rfl]
      · rw [if_neg (fun e => hss (levels_inj e.1)), if_neg hss]
    · rw [if_neg (fun e => hj (by have := e.2; omega)), if_neg hj]
  · rw [g6] at hv
    by_cases hc : L = levels s ∧ j = (k : Int)
    · rw [if_pos hc] at hv; cases hv
    · rw [if_neg hc] at hv
      exact h.only j L v hv
  · unfold upd
    rw [h.cntD hk]
    have hl := aDelG_len (h.keys k) hs
    by_cases hjk : j = k
    · subst hjk
      rw [if_pos rfl, List.getElem?_set_self (by rw [h.trie.len]; exact hj)]
      congr 1
      omega
    · rw [if_neg hjk, List.getElem?_set_ne (fun e => hjk e.symm)]; exact h.cnt j hj
  · unfold upd; split
    · have := aDelG_len (h.keys k) hs
      have := h.cap k
      omega
    · exact h.cap j
/-- All of somebody, out of the levels. -/
theorem TrieA.all {w : World} {t root : Nat} {N : Nodes} {cnt : List Int} {A : Wishes} (h : TrieA w t root N cnt A) (k : Nat) : ((allN N 13 root k).map (toF [])).Perm (A k) := by
  have hK := forest_keys h.trie.forest
  have hmem := mem_all hK (k : Int) 13 root
  have hval : ∀ e ∈ allN N 13 root k, ∃ s, levels s = e.1 ∧ aGet (A k) s = some e.2 := fun e he => by
    obtain ⟨h1, h2⟩ := (hmem e.1 e.2).1 he
    obtain ⟨n, _, _, s, hs⟩ := h.only _ _ _ h2
    refine ⟨s, hs, ?_⟩
    rw [← h.want, hs]
    exact h2
  refine get_perm ?_ (h.keys k) ?_
  · have hnd := all_nodup hK (k : Int) 13 root
    rw [List.map_map]
    have hnd2 := List.pairwise_map.1 hnd
    refine List.pairwise_map.2 ?_
    have : (allN N 13 root k).Pairwise fun a b => a ∈ allN N 13 root k ∧ b ∈ allN N 13 root k := List.pairwise_of_forall_mem_list (fun a ha b hb => ⟨ha, hb⟩)
    refine (this.and hnd2).imp ?_
    intro a b hab e
    obtain ⟨s1, e1, _⟩ := hval a hab.1.1
    obtain ⟨s2, e2, _⟩ := hval b hab.1.2
    simp only [Function.comp_apply, toF, List.nil_append, ← e1, ← e2, join_levels] at e
    exact hab.2 (by rw [← e1, ← e2, e])
  · intro s
    cases hg : aGet (A k) s with
    | some q =>
      have hw : Go.Proofs.YtldagaliddgdjaaGreatDoor.want N root (levels s) k = some q := by rw [h.want, hg]
      have hin : (levels s, q) ∈ allN N 13 root k := by
        refine (hmem _ _).2 ⟨?_, hw⟩
        have hf := (h.filt k (s, q) (aGet_mem hg)).1
        have : (levels s).length ≤ 12 := levels_few (lvFilter_sized hf)
        omega
      have hnd : (((allN N 13 root k).map (toF [])).map (·.1)).Nodup := by
        have hnd := all_nodup hK (k : Int) 13 root
        rw [List.map_map]
        have hnd2 := List.pairwise_map.1 hnd
        refine List.pairwise_map.2 ?_
        have : (allN N 13 root k).Pairwise fun a b => a ∈ allN N 13 root k ∧ b ∈ allN N 13 root k := List.pairwise_of_forall_mem_list (fun a ha b hb => ⟨ha, hb⟩)
        refine (this.and hnd2).imp ?_
        intro a b hab e
        obtain ⟨s1, e1, _⟩ := hval a hab.1.1
        obtain ⟨s2, e2, _⟩ := hval b hab.1.2
        simp only [Function.comp_apply, toF, List.nil_append, ← e1, ← e2, join_levels] at e
        exact hab.2 (by rw [← e1, ← e2, e])
      have hm2 : (s, q) ∈ (allN N 13 root k).map (toF []) := List.mem_map.2 ⟨_, hin, by simp [toF, join_levels]⟩
      exact aGet_of_mem hnd hm2
    | none =>
      cases hx : aGet ((allN N 13 root k).map (toF [])) s with
      | none => rfl
      | some q =>
        obtain ⟨e, he, hee⟩ := List.mem_map.1 (aGet_mem hx)
        obtain ⟨s1, e1, hs1⟩ := hval e he
        have : s1 = s := by
          have := congrArg Prod.fst hee
          simp only [toF, List.nil_append, ← e1, join_levels] at this
          exact this
        rw [this, hg] at hs1
        cases hs1
end Go.Proofs.YtldagaliddgdjaaGreatDoor
