/- Maps as lists: deleting, clearing, going over one. No program in sight. -/
import Derived.Test.YtacbahmmmndmbaaGreatDoorBase
import Derived.Maps.RangeRun
namespace Go.Proofs.YtacbahmmmndmbaaGreatDoor
open Go.RowKit

section
variable {κ : Type} {enc : κ → Value}
theorem MapS.size_eq {l : List (κ × Value)} {es : Array MapEntry} (hl : es.toList.map (fun e => (e.key, e.val)) = l.map (fun p => (enc p.1, p.2))) : es.size = l.length := by
  have := congrArg List.length hl; simpa using this
/-- Keys are all different. -/
theorem MapS.nodup {P : Program} {kt : TypeId} [BEq κ] {w : World} {m : Nat} {l : List (κ × Value)} (h : MapS enc w m l) (_K : KeyKind P kt enc) : (l.map (·.1)).Nodup := by
  obtain ⟨es, clock, hb, hl, hst⟩ := h
  have h1 := hst.2.2
  have h2 : es.toList.map (·.key) = l.map (fun p => enc p.1) := by
    have := congrArg (List.map Prod.fst) hl
    simpa [List.map_map, Function.comp_def] using this
  rw [h2] at h1
  have h3 : (l.map (fun p => enc p.1)) = (l.map (·.1)).map enc := by simp [List.map_map, Function.comp_def]
  rw [h3] at h1
  exact (List.pairwise_map.1 h1).imp fun hne e => hne (by rw [e])
variable {P : Program} {kt : TypeId}
/-- 'clear(m)'. -/
theorem MapS.clear {w : World} {m : Nat} {l : List (κ × Value)} (h : MapS enc w m l) {t e : TypeId} (ht : P.underlying t = some (.map kt e)) (ty : TypeId) :
    ∃ w1, (Builtin.clear_ #[t] ty #[.map (some m)]).run P w = .ok (.tuple #[]) w1 ∧ MapS enc w1 m [] ∧ Own [m] w w1 ∧ w1.heap.size = w.heap.size := by
  obtain ⟨es, clock, hb, hl, hst⟩ := h
  have hlt := lt_of_heap hb
  refine ⟨{ w with heap := w.heap.setIfInBounds m (.map #[] clock) }, ?_, ⟨#[], clock, ?_, rfl, MapKept.stamped_empty _⟩, (Own.refl _ _).setObj (by simp) _, by simp⟩
  · simp [Builtin.clear_, run_underlying ht, MapKept.run_getObj_map hb, MapKept.run_setObj_map _ hb, Result.andThen]
  · show (w.heap.setIfInBounds m _)[m]? = _
    simp [hlt]

/-- Block r goes over map m: the entries of rem are still to come. -/
def IterAt (enc : κ → Value) (w : World) (r m : Nat) (l rem : List (κ × Value)) : Prop :=
  r ≠ m ∧ ∃ es clock since seen c0, w.heap[r]? = some (.mapIter (some m) since seen c0) ∧ w.heap[m]? = some (.map es clock) ∧ es.toList.map (fun e => (e.key, e.val)) = l.map (fun p => (enc p.1, p.2)) ∧ MapKept.Stamped es clock ∧
    (∀ x ∈ es.toList, x.born < since) ∧ since ≤ c0 ∧ since ≤ clock ∧ (leftOf es seen).toList.map (fun e => (e.key, e.val)) = rem.map (fun p => (enc p.1, p.2))

theorem IterAt.map {w : World} {r m : Nat} {l rem : List (κ × Value)} (h : IterAt enc w r m l rem) : MapS enc w m l := by
  obtain ⟨_, es, clock, since, seen, c0, hr, hm, hl, hst, _⟩ := h
  exact ⟨es, clock, hm, hl, hst⟩
theorem IterAt.own {S : List Nat} {w w' : World} {r m : Nat} {l rem : List (κ × Value)} (h : IterAt enc w r m l rem) (ho : Own S w w') (hr : r ∉ S) (hm : m ∉ S) : IterAt enc w' r m l rem := by
  obtain ⟨hne, es, clock, since, seen, c0, h1, h2, h3⟩ := h
  exact ⟨hne, es, clock, since, seen, c0, ho.heap h1 hr, ho.heap h2 hm, h3⟩

/-- 'range m'. -/
theorem MapS.range {w : World} {m : Nat} {l : List (κ × Value)} (h : MapS enc w m l) {t e : TypeId} (ht : P.underlying t = some (.map kt e)) :
    ∃ w1, (Instr.range t (.map (some m))).run P w = .ok (.pointer (some ⟨w.heap.size, 0, none⟩)) w1 ∧ IterAt enc w1 w.heap.size m l l ∧ Own [] w w1 ∧ w1.heap.size = w.heap.size + 1 := by
  obtain ⟨es, clock, hb, hl, hst⟩ := h
  have hlt := lt_of_heap hb
  refine ⟨w.alloc (.mapIter (some m) clock #[] clock), ?_, ⟨by omega, es, clock, clock, #[], clock, heap_alloc_new _ _, ?_, hl, hst, hst.1, Nat.le_refl _, Nat.le_refl _, ?_⟩, (Own.refl _ _).alloc _, by simp⟩
  · simp [Instr.range, run_underlying ht, MapKept.run_getObj_map hb, newObj, Sem.run, Result.andThen]
  · rw [Below.heap_alloc _ _ _ hlt]; exact hb
  · have : leftOf es #[] = es := by unfold leftOf; simp
    rw [this, hl]

/-- A step of it. -/
theorem IterAt.next {w : World} {r m : Nat} {l rem : List (κ × Value)} (h : IterAt enc w r m l rem) (ty : TypeId) :
    (rem = [] ∧ (Instr.next (.pointer (some ⟨r, 0, none⟩)) false ty).run P w = .ok (.tuple #[.bool false]) w) ∨
    ∃ (r1 r2 : List (κ × Value)) (p : κ × Value) (w1 : World), rem = r1 ++ p :: r2 ∧ (Instr.next (.pointer (some ⟨r, 0, none⟩)) false ty).run P w = .ok (.tuple #[.bool true, enc p.1, p.2]) w1 ∧
      IterAt enc w1 r m l (r1 ++ r2) ∧ Own [r] w w1 ∧ w1.heap.size = w.heap.size ∧ (Instr.entry (.pointer (some ⟨r, 0, none⟩))).run P w1 = .ok (.tuple #[enc p.1, p.2]) w1 := by
  obtain ⟨hne, es, clock, since, seen, c0, hr, hm, hl, hst, hold, hsc, hsk, hleft⟩ := h
  rcases run_next_at (P := P) w ty r m since c0 seen es clock hr hm hold hsc with ⟨h0, hrun⟩ | ⟨e, he, w1, hw1, hrun⟩
  · left
    refine ⟨?_, hrun⟩
    have := congrArg List.length hleft
    simp only [List.length_map, Array.length_toList, h0] at this
    exact List.length_eq_zero_iff.1 this.symm
  · right
    obtain ⟨s1, s2, hs⟩ := List.append_of_mem he
    rw [hs] at hleft
    simp only [List.map_append, List.map_cons] at hleft
    obtain ⟨r1, r12, hrem, h1, h2⟩ := List.map_eq_append_iff.1 hleft.symm
    obtain ⟨p, r2, h12, hp, h3⟩ := List.map_eq_cons_iff.1 h2
    have hk : enc p.1 = e.key := (Prod.mk.inj hp).1
    have hv : p.2 = e.val := (Prod.mk.inj hp).2
    have hee : e ∈ es.toList := by
      have : e ∈ leftOf es seen := by simpa using he
      unfold leftOf at this
      simp at this
      simpa using this.1
    have hrl : r < w1.heap.size := by rcases hw1 with rfl | rfl <;> exact lt_of_heap hr
    have hm1 : w1.heap[m]? = some (.map es clock) := by rcases hw1 with rfl | rfl <;> exact hm
    have hO1 : Own [r] w w1 := by rcases hw1 with rfl | rfl; exact Own.refl _ _; exact (Own.refl _ _).drew
    have hsz : w1.heap.size = w.heap.size := by rcases hw1 with rfl | rfl <;> rfl
    have hr2 : (ChangeMaps.setBlock w1 r (.mapIter (some m) since (seen.push e.born) clock)).heap[r]? = some (.mapIter (some m) since (seen.push e.born) clock) := by
      show (w1.heap.setIfInBounds r _)[r]? = _
      simp [hrl]
    have hm2 : (ChangeMaps.setBlock w1 r (.mapIter (some m) since (seen.push e.born) clock)).heap[m]? = some (.map es clock) := by
      show (w1.heap.setIfInBounds r _)[m]? = _
      rw [Array.getElem?_setIfInBounds_ne hne]
      exact hm1
    refine ⟨r1, r2, p, ChangeMaps.setBlock w1 r (.mapIter (some m) since (seen.push e.born) clock), by rw [hrem, h12], by rw [hk, hv]; exact hrun, ?_, hO1.trans ((Own.refl [r] w1).setObj (by simp) _), by simpa [ChangeMaps.setBlock] using hsz, ?_⟩
    · refine ⟨hne, es, clock, since, seen.push e.born, clock, hr2, hm2, hl, hst, hold, hsk, hsk, ?_⟩
      have hnb : ∀ x ∈ s1 ++ s2, x.born ≠ e.born := by
        have hn : ((leftOf es seen).toList.map (·.born)).Nodup := by
          unfold leftOf
          rw [Array.toList_filter]
          exact (List.Sublist.map _ List.filter_sublist).nodup hst.2.1
        rw [hs] at hn
        simp only [List.map_append, List.map_cons] at hn
        intro x hx heq
        have hn2 := (List.perm_middle.nodup_iff).1 hn
        rw [List.nodup_cons] at hn2
        exact hn2.1 (by rw [← heq, ← List.map_append]; exact List.mem_map_of_mem hx)
      have hlf : (leftOf es (seen.push e.born)).toList = s1 ++ s2 := by
        have h1 : (leftOf es (seen.push e.born)).toList = (leftOf es seen).toList.filter (fun x => !(x.born == e.born)) := by
          unfold leftOf
          rw [Array.toList_filter, Array.toList_filter, List.filter_filter]
          congr 1; funext x
          rw [Bool.eq_iff_iff]
          simp [and_comm]
        rw [h1, hs, List.filter_append, List.filter_cons]
        have h2 : ∀ q : List MapEntry, (∀ x ∈ q, x.born ≠ e.born) → q.filter (fun x => !(x.born == e.born)) = q := fun q hq => List.filter_eq_self.2 fun x hx => by simpa using hq x hx
        rw [h2 s1 (fun x hx => hnb x (List.mem_append_left _ hx)), h2 s2 (fun x hx => hnb x (List.mem_append_right _ hx))]
        simp
      rw [hlf, List.map_append, List.map_append, h1, h3]
    · rw [hk, hv]
      exact run_entry_at _ r m since seen es clock e hr2 hm2 hee hst.2.1

end

section
variable {P : Program} {kt : TypeId} {κ : Type} [BEq κ] [LawfulBEq κ] {enc : κ → Value}
/-- A key is taken away. -/
def aDel {α : Type} (l : List (κ × α)) (k : κ) : List (κ × α) := l.filter fun p => !(p.1 == k)

theorem eraseIdx_filter {α : Type} (q : α → Bool) : ∀ (l : List α) (j : Nat), l.Pairwise (fun x y => ¬ (q x = true ∧ q y = true)) → l.findIdx? q = some j → l.eraseIdx j = l.filter fun x => !q x
  | [], j, _, h => by simp at h
  | x :: r, j, hp, h => by
    obtain ⟨h1, h2⟩ := List.pairwise_cons.1 hp
    simp only [List.findIdx?_cons] at h
    cases hx : q x with
    | true =>
      simp only [hx, if_true, Option.some.injEq] at h
      subst h
      have : r.filter (fun x => !q x) = r := List.filter_eq_self.2 fun y hy => by
        have := h1 y hy
        simp only [hx, true_and] at this
        simpa using this
      simp [hx, this]
    | false =>
      simp only [hx, Bool.false_eq_true, if_false] at h
      obtain ⟨i, hi, rfl⟩ := Option.map_eq_some_iff.1 h
      simp [hx, eraseIdx_filter q r i h2 hi]

theorem keys_pairwise {α : Type} {l : List (κ × α)} (h : (l.map (·.1)).Nodup) (k : κ) : l.Pairwise (fun x y => ¬ ((k == x.1) = true ∧ (k == y.1) = true)) := by
  rw [List.Nodup, List.pairwise_map] at h
  exact h.imp fun hne ⟨h1, h2⟩ => hne ((LawfulBEq.eq_of_beq h1).symm.trans (LawfulBEq.eq_of_beq h2))

/-- 'delete(m, k)'. -/
theorem MapS.delete {w : World} {m : Nat} {l : List (κ × Value)} (h : MapS enc w m l) (K : KeyKind P kt enc) {t e : TypeId} (ht : P.underlying t = some (.map kt e)) (k : κ) (t2 ty : TypeId) :
    ∃ w1, (Builtin.delete_ #[t, t2] ty #[.map (some m), enc k]).run P w = .ok (.tuple #[]) w1 ∧ MapS enc w1 m (aDel l k) ∧ Own [m] w w1 ∧ w1.heap.size = w.heap.size := by
  have hnd := h.nodup K
  obtain ⟨es, clock, hb, hl, hst⟩ := h
  have hlt := lt_of_heap hb
  have hr := run_findKey_S (w := w) K hl k
  have hset : ∀ o, ({ w with heap := w.heap.setIfInBounds m o } : World).heap[m]? = some o := fun o => by
    show (w.heap.setIfInBounds m o)[m]? = _
    simp [hlt]
  have hfl : aDel l k = l.filter fun p => !(k == p.1) := by
    unfold aDel
    congr 1; funext p
    cases h1 : (k == p.1) <;> cases h2 : (p.1 == k) <;> simp_all
  cases hj : l.findIdx? (fun p => k == p.1) with
  | none =>
    rw [hj] at hr
    refine ⟨{ w with heap := w.heap.setIfInBounds m (.map es clock) }, ?_, ⟨_, _, hset _, ?_, hst⟩, (Own.refl _ _).setObj (by simp) _, by simp⟩
    · simp [Builtin.delete_, run_underlying ht, MapKept.run_getObj_map hb, MapKept.run_setObj_map _ hb, K.check, hr, Result.andThen]
    · have : l.filter (fun p => !(k == p.1)) = l := List.filter_eq_self.2 fun p hp => by simpa using List.findIdx?_eq_none_iff.1 hj p hp
      rw [hfl, this, hl]
  | some j =>
    obtain ⟨hjl, hjk, _⟩ := List.findIdx?_eq_some_iff_getElem.1 hj
    have hjp : l[j]? = some l[j] := List.getElem?_eq_getElem hjl
    have hlen : es.size = l.length := by have := congrArg List.length hl; simpa using this
    rw [hj] at hr
    simp only [Option.bind_some, hjp, Option.map_some] at hr
    refine ⟨{ w with heap := w.heap.setIfInBounds m (.map (es.eraseIdxIfInBounds j) clock) }, ?_, ⟨_, _, hset _, ?_, MapKept.stamped_erase hst j⟩, (Own.refl _ _).setObj (by simp) _, by simp⟩
    · simp [Builtin.delete_, run_underlying ht, MapKept.run_getObj_map hb, MapKept.run_setObj_map _ hb, K.check, hr, Result.andThen]
    · rw [hfl, ← eraseIdx_filter _ l j (keys_pairwise hnd k) hj]
      have : (es.eraseIdxIfInBounds j).toList = es.toList.eraseIdx j := by
        unfold Array.eraseIdxIfInBounds
        rw [dif_pos (by omega)]
        simp
      rw [this, ChangeMaps.map_eraseIdx, hl, ← ChangeMaps.map_eraseIdx]

/-- 'delete(m, k)' of a key that is not to come any more. -/
theorem IterAt.delete {w : World} {r m : Nat} {l rem : List (κ × Value)} (h : IterAt enc w r m l rem) (K : KeyKind P kt enc) {t e : TypeId} (ht : P.underlying t = some (.map kt e)) (k : κ) (t2 ty : TypeId) (hk : ∀ p ∈ rem, p.1 ≠ k) :
    ∃ w1, (Builtin.delete_ #[t, t2] ty #[.map (some m), enc k]).run P w = .ok (.tuple #[]) w1 ∧ IterAt enc w1 r m (aDel l k) rem ∧ Own [m] w w1 ∧ w1.heap.size = w.heap.size := by
  have hM := h.map
  have hnd := hM.nodup K
  obtain ⟨hne, es, clock, since, seen, c0, hr, hb, hl, hst, hold, hsc, hsk, hleft⟩ := h
  have hlt := lt_of_heap hb
  have hrn := run_findKey_S (w := w) K hl k
  have hset : ∀ o, ({ w with heap := w.heap.setIfInBounds m o } : World).heap[m]? = some o := fun o => by
    show (w.heap.setIfInBounds m o)[m]? = _
    simp [hlt]
  have hset2 : ∀ o, ({ w with heap := w.heap.setIfInBounds m o } : World).heap[r]? = some (.mapIter (some m) since seen c0) := fun o => by
    show (w.heap.setIfInBounds m o)[r]? = _
    rw [Array.getElem?_setIfInBounds_ne (Ne.symm hne)]
    exact hr
  have hfl : aDel l k = l.filter fun p => !(k == p.1) := by
    unfold aDel
    congr 1; funext p
    cases h1 : (k == p.1) <;> cases h2 : (p.1 == k) <;> simp_all
  cases hj : l.findIdx? (fun p => k == p.1) with
  | none =>
    rw [hj] at hrn
    refine ⟨{ w with heap := w.heap.setIfInBounds m (.map es clock) }, ?_, ⟨hne, es, clock, since, seen, c0, hset2 _, hset _, ?_, hst, hold, hsc, hsk, hleft⟩, (Own.refl _ _).setObj (by simp) _, by simp⟩
    · simp [Builtin.delete_, run_underlying ht, MapKept.run_getObj_map hb, MapKept.run_setObj_map _ hb, K.check, hrn, Result.andThen]
    · have : l.filter (fun p => !(k == p.1)) = l := List.filter_eq_self.2 fun p hp => by simpa using List.findIdx?_eq_none_iff.1 hj p hp
      rw [hfl, this, hl]
  | some j =>
    obtain ⟨hjl, hjk, _⟩ := List.findIdx?_eq_some_iff_getElem.1 hj
    have hjp : l[j]? = some l[j] := List.getElem?_eq_getElem hjl
    have hlen : es.size = l.length := by have := congrArg List.length hl; simpa using this
    have hjs : j < es.size := by omega
    rw [hj] at hrn
    simp only [Option.bind_some, hjp, Option.map_some] at hrn
    have hel : (es.eraseIdxIfInBounds j).toList = es.toList.eraseIdx j := by
      unfold Array.eraseIdxIfInBounds
      rw [dif_pos (by omega)]
      simp
    refine ⟨{ w with heap := w.heap.setIfInBounds m (.map (es.eraseIdxIfInBounds j) clock) }, ?_, ⟨hne, _, clock, since, seen, c0, hset2 _, hset _, ?_, MapKept.stamped_erase hst j, ?_, hsc, hsk, ?_⟩, (Own.refl _ _).setObj (by simp) _, by simp⟩
    · simp [Builtin.delete_, run_underlying ht, MapKept.run_getObj_map hb, MapKept.run_setObj_map _ hb, K.check, hrn, Result.andThen]
    · rw [hfl, ← eraseIdx_filter _ l j (keys_pairwise hnd k) hj, hel, ChangeMaps.map_eraseIdx, hl, ← ChangeMaps.map_eraseIdx]
    · intro x hx
      rw [hel] at hx
      exact hold x (List.mem_of_mem_eraseIdx hx)
    · rw [← hleft]
      have hkey : es[j].key = enc k := by
        have := congrArg (fun q => q[j]?) hl
        simp only [List.getElem?_map, hjp, Option.map_some, Array.getElem?_toList, Array.getElem?_eq_getElem hjs, Option.some.injEq, Prod.mk.injEq] at this
        rw [this.1, LawfulBEq.eq_of_beq hjk]
      have hnot : (!seen.contains es[j].born) = false := by
        cases hc : (!seen.contains es[j].born)
        · rfl
        · exfalso
          have hmem : es[j] ∈ (leftOf es seen).toList := by
            unfold leftOf
            simp only [Array.toList_filter, List.mem_filter]
            exact ⟨by simp, hc⟩
          have := List.mem_map_of_mem (f := fun e : MapEntry => (e.key, e.val)) hmem
          rw [hleft] at this
          obtain ⟨p, hp, he⟩ := List.mem_map.1 this
          exact hk p hp (K.inj _ _ ((Prod.mk.inj he).1.trans hkey))
      have : (leftOf (es.eraseIdxIfInBounds j) seen).toList = (leftOf es seen).toList := by
        unfold leftOf
        rw [Array.toList_filter, Array.toList_filter, hel]
        have hsplit : es.toList = es.toList.take j ++ es[j] :: es.toList.drop (j + 1) := by
          rw [← List.take_append_drop j es.toList]
          congr 1
          · simp
          · rw [List.take_append_drop, List.drop_eq_getElem_cons (by simpa using hjs)]
            simp
        rw [List.eraseIdx_eq_take_drop_succ]
        conv => rhs; rw [hsplit]
        rw [List.filter_append, List.filter_append, List.filter_cons, hnot]
        simp
      rw [this]
end

/-! ### entries of a type, in whatever order -/
section
variable {P : Program} {kt : TypeId} {κ α : Type} {ek : κ → Value} {ev : α → Value}
def onV (ev : α → Value) (l : List (κ × α)) : List (κ × Value) := l.map fun p => (p.1, ev p.2)
theorem onV_length (l : List (κ × α)) : (onV ev l).length = l.length := by simp [onV]
theorem onV_keys (l : List (κ × α)) : (onV ev l).map (·.1) = l.map (·.1) := by simp [onV, List.map_map, Function.comp_def]
theorem aGet_onV [BEq κ] (l : List (κ × α)) (k : κ) : aGet (onV ev l) k = (aGet l k).map ev := by
  unfold aGet onV
  rw [List.find?_map, Option.map_map, Option.map_map]
  rfl
theorem aPut_onV [BEq κ] (l : List (κ × α)) (k : κ) (v : α) : aPut (onV ev l) k (ev v) = onV ev (aPut l k v) := by
  induction l with
  | nil => rfl
  | cons p r ih =>
    simp only [onV, List.map_cons, aPut] at ih ⊢
    cases h : (p.1 == k)
    · simp only [Bool.false_eq_true, if_false, List.map_cons]; rw [ih]
    · simp
theorem aDel_onV [BEq κ] (l : List (κ × α)) (k : κ) : aDel (onV ev l) k = onV ev (aDel l k) := by
  unfold aDel onV
  rw [List.filter_map]
  rfl
theorem aGet_none_iff [BEq κ] [LawfulBEq κ] (l : List (κ × α)) (k : κ) : aGet l k = none ↔ ∀ p ∈ l, p.1 ≠ k := by
  unfold aGet
  rw [Option.map_eq_none_iff, List.find?_eq_none]
  simp
theorem aGet_some_of [BEq κ] [LawfulBEq κ] (l : List (κ × α)) (hn : (l.map (·.1)).Nodup) {p : κ × α} (hp : p ∈ l) : aGet l p.1 = some p.2 := by
  induction l with
  | nil => simp at hp
  | cons q r ih =>
    simp only [List.map_cons, List.nodup_cons] at hn
    rcases List.mem_cons.1 hp with rfl | h
    · simp [aGet]
    · have hne : q.1 ≠ p.1 := fun e => hn.1 (by rw [e]; exact List.mem_map_of_mem h)
      have := ih hn.2 h
      unfold aGet at this ⊢
      rw [List.find?_cons_of_neg (by simpa using hne)]
      exact this
theorem aGet_mem [BEq κ] [LawfulBEq κ] {l : List (κ × α)} {k : κ} {v : α} (h : aGet l k = some v) : (k, v) ∈ l := by
  unfold aGet at h
  obtain ⟨p, hp, rfl⟩ := Option.map_eq_some_iff.1 h
  have h1 := List.find?_some hp
  have h2 := List.mem_of_find?_eq_some hp
  have : p.1 = k := by simpa using h1
  subst this
  exact h2
theorem aGet_perm [BEq κ] [LawfulBEq κ] {l l' : List (κ × α)} (hp : l.Perm l') (hn : (l.map (·.1)).Nodup) (k : κ) : aGet l k = aGet l' k := by
  have hn' : (l'.map (·.1)).Nodup := (hp.map _).nodup_iff.1 hn
  cases h : aGet l k with
  | some v => exact (aGet_some_of l' hn' (p := (k, v)) (hp.mem_iff.1 (aGet_mem h))).symm
  | none =>
    symm
    rw [aGet_none_iff] at h ⊢
    exact fun p hp' => h p (hp.mem_iff.2 hp')
theorem aPut_new [BEq κ] [LawfulBEq κ] {l : List (κ × α)} {k : κ} (h : aGet l k = none) (v : α) : aPut l k v = l ++ [(k, v)] := by
  refine aPut_none v ?_
  rw [List.findIdx?_eq_none_iff]
  intro p hp
  have := (aGet_none_iff l k).1 h p hp
  simpa using fun e => this e.symm
theorem aPut_perm [BEq κ] [LawfulBEq κ] {l : List (κ × α)} (hn : (l.map (·.1)).Nodup) (k : κ) (v : α) : (aPut l k v).Perm ((k, v) :: aDel l k) := by
  induction l with
  | nil => simp [aPut, aDel]
  | cons p r ih =>
    simp only [List.map_cons, List.nodup_cons] at hn
    unfold aDel at ih ⊢
    by_cases h : p.1 = k
    · subst h
      have : r.filter (fun q => !(q.1 == p.1)) = r := List.filter_eq_self.2 fun q hq => by
        have : q.1 ≠ p.1 := fun e => hn.1 (by rw [← e]; exact List.mem_map_of_mem hq)
        simpa using this
      simp [aPut, this]
    · have h1 : (p.1 == k) = false := by simpa using h
      simp only [aPut, h1, Bool.false_eq_true, if_false, List.filter_cons, Bool.not_false, if_true]
      exact ((ih hn.2).cons p).trans (List.Perm.swap _ _ _)

/-- Block m is a map with just the entries of l, in whatever order. -/
def MapP (ek : κ → Value) (ev : α → Value) (w : World) (m : Nat) (l : List (κ × α)) : Prop := ∃ l', l'.Perm l ∧ MapS ek w m (onV ev l')
theorem MapP.perm {w : World} {m : Nat} {l l2 : List (κ × α)} (h : MapP ek ev w m l) (hp : l.Perm l2) : MapP ek ev w m l2 := let ⟨l', h1, h2⟩ := h; ⟨l', h1.trans hp, h2⟩
theorem MapP.own {S : List Nat} {w w' : World} {m : Nat} {l : List (κ × α)} (h : MapP ek ev w m l) (ho : Own S w w') (hn : m ∉ S) : MapP ek ev w' m l := let ⟨l', h1, h2⟩ := h; ⟨l', h1, h2.own ho hn⟩
theorem MapP.of_heap {w w' : World} {m : Nat} {l : List (κ × α)} (h : MapP ek ev w m l) (he : w'.heap[m]? = w.heap[m]?) : MapP ek ev w' m l := let ⟨l', h1, h2⟩ := h; ⟨l', h1, h2.of_heap he⟩
theorem MapP.lt {w : World} {m : Nat} {l : List (κ × α)} (h : MapP ek ev w m l) : m < w.heap.size := let ⟨_, _, h2⟩ := h; h2.lt
theorem MapP.made (w : World) : MapP ek ev (w.alloc (.map #[] 0)) w.heap.size ([] : List (κ × α)) := ⟨[], List.Perm.refl _, MapS.made w⟩
theorem MapP.nodup [BEq κ] {w : World} {m : Nat} {l : List (κ × α)} (h : MapP ek ev w m l) (K : KeyKind P kt ek) : (l.map (·.1)).Nodup := by
  obtain ⟨l', h1, h2⟩ := h
  have := h2.nodup K
  rw [onV_keys] at this
  exact (h1.map _).nodup_iff.1 this
theorem MapP.len_run {w : World} {m : Nat} {l : List (κ × α)} (h : MapP ek ev w m l) {e t : TypeId} (ht : P.underlying t = some (.map kt e)) (ty : TypeId) :
    (Builtin.len_ #[t] ty #[.map (some m)]).run P w = .ok (.int .i64 l.length) w := by
  obtain ⟨l', h1, h2⟩ := h
  have := h2.len_run (P := P) ht ty
  rw [onV_length, h1.length_eq] at this
  exact this
theorem MapP.lookup_yes [BEq κ] [LawfulBEq κ] {w : World} {m : Nat} {l : List (κ × α)} (h : MapP ek ev w m l) (K : KeyKind P kt ek) {t e : TypeId} (ht : P.underlying t = some (.map kt e)) (k : κ) {v : α}
    (hg : aGet l k = some v) (c : Bool) : (Instr.lookup t (.map (some m)) (ek k) c).run P w = .ok (if c then .tuple #[ev v, .bool true] else ev v) w := by
  have hn := h.nodup K
  obtain ⟨l', h1, h2⟩ := h
  exact h2.lookup_yes K ht k (by rw [aGet_onV, aGet_perm h1 ((h1.map _).nodup_iff.2 hn), hg]; rfl) c
theorem MapP.lookup_no [BEq κ] [LawfulBEq κ] {w : World} {m : Nat} {l : List (κ × α)} (h : MapP ek ev w m l) (K : KeyKind P kt ek) {t e : TypeId} (ht : P.underlying t = some (.map kt e)) (k : κ) {z : Value}
    (hz : (zeroValue e).run P w = .ok z w) (hg : aGet l k = none) (c : Bool) : (Instr.lookup t (.map (some m)) (ek k) c).run P w = .ok (if c then .tuple #[z, .bool false] else z) w := by
  have hn := h.nodup K
  obtain ⟨l', h1, h2⟩ := h
  exact h2.lookup_no K ht k hz (by rw [aGet_onV, aGet_perm h1 ((h1.map _).nodup_iff.2 hn), hg]; rfl) c
theorem MapP.update [BEq κ] [LawfulBEq κ] {w : World} {m : Nat} {l : List (κ × α)} (h : MapP ek ev w m l) (K : KeyKind P kt ek) {t e : TypeId} (ht : P.underlying t = some (.map kt e)) (k : κ) (v : α) :
    ∃ w1, (Instr.mapUpdate t (.map (some m)) (ek k) (ev v)).run P w = .ok () w1 ∧ MapP ek ev w1 m (aPut l k v) ∧ Own [m] w w1 ∧ w1.heap.size = w.heap.size := by
  have hn := h.nodup K
  obtain ⟨l', h1, h2⟩ := h
  have hn' := (h1.map _).nodup_iff.2 hn
  obtain ⟨w1, r1, r2, r3⟩ := h2.update K ht k (ev v)
  rw [aPut_onV] at r2
  exact ⟨w1, r1, ⟨_, (aPut_perm hn' k v).trans ((List.Perm.cons _ (h1.filter _)).trans (aPut_perm hn k v).symm), r2⟩, r3⟩
theorem MapP.delete [BEq κ] [LawfulBEq κ] {w : World} {m : Nat} {l : List (κ × α)} (h : MapP ek ev w m l) (K : KeyKind P kt ek) {t e : TypeId} (ht : P.underlying t = some (.map kt e)) (k : κ) (t2 ty : TypeId) :
    ∃ w1, (Builtin.delete_ #[t, t2] ty #[.map (some m), ek k]).run P w = .ok (.tuple #[]) w1 ∧ MapP ek ev w1 m (aDel l k) ∧ Own [m] w w1 ∧ w1.heap.size = w.heap.size := by
  obtain ⟨l', h1, h2⟩ := h
  obtain ⟨w1, r1, r2, r3⟩ := h2.delete K ht k t2 ty
  rw [aDel_onV] at r2
  exact ⟨w1, r1, ⟨_, h1.filter _, r2⟩, r3⟩
theorem MapP.clear {w : World} {m : Nat} {l : List (κ × α)} (h : MapP ek ev w m l) {t e : TypeId} (ht : P.underlying t = some (.map kt e)) (ty : TypeId) :
    ∃ w1, (Builtin.clear_ #[t] ty #[.map (some m)]).run P w = .ok (.tuple #[]) w1 ∧ MapP ek ev w1 m ([] : List (κ × α)) ∧ Own [m] w w1 ∧ w1.heap.size = w.heap.size := by
  obtain ⟨l', h1, h2⟩ := h
  obtain ⟨w1, r1, r2, r3⟩ := h2.clear (P := P) ht ty
  exact ⟨w1, r1, ⟨[], List.Perm.refl _, r2⟩, r3⟩

/-- Block r goes over map m: the entries of rem are still to come. -/
def IterP (ek : κ → Value) (ev : α → Value) (w : World) (r m : Nat) (l rem : List (κ × α)) : Prop := ∃ l', l'.Perm l ∧ IterAt ek w r m (onV ev l') (onV ev rem)
theorem IterP.map {w : World} {r m : Nat} {l rem : List (κ × α)} (h : IterP ek ev w r m l rem) : MapP ek ev w m l := let ⟨l', h1, h2⟩ := h; ⟨l', h1, h2.map⟩
theorem IterP.own {S : List Nat} {w w' : World} {r m : Nat} {l rem : List (κ × α)} (h : IterP ek ev w r m l rem) (ho : Own S w w') (hr : r ∉ S) (hm : m ∉ S) : IterP ek ev w' r m l rem :=
  let ⟨l', h1, h2⟩ := h; ⟨l', h1, h2.own ho hr hm⟩
theorem IterP.lt {w : World} {r m : Nat} {l rem : List (κ × α)} (h : IterP ek ev w r m l rem) : r < w.heap.size := by
  obtain ⟨l', h1, hne, es, clock, since, seen, c0, hr, _⟩ := h
  exact lt_of_heap hr
theorem MapP.range {w : World} {m : Nat} {l : List (κ × α)} (h : MapP ek ev w m l) {t e : TypeId} (ht : P.underlying t = some (.map kt e)) :
    ∃ w1 rem, (Instr.range t (.map (some m))).run P w = .ok (.pointer (some ⟨w.heap.size, 0, none⟩)) w1 ∧ IterP ek ev w1 w.heap.size m l rem ∧ rem.Perm l ∧ Own [] w w1 ∧ w1.heap.size = w.heap.size + 1 := by
  obtain ⟨l', h1, h2⟩ := h
  obtain ⟨w1, r1, r2, r3⟩ := h2.range (P := P) ht
  exact ⟨w1, l', r1, ⟨l', h1, r2⟩, h1, r3⟩
theorem IterP.next {w : World} {r m : Nat} {l rem : List (κ × α)} (h : IterP ek ev w r m l rem) (P : Program) :
    (rem = [] ∧ ∀ ty, (Instr.next (.pointer (some ⟨r, 0, none⟩)) false ty).run P w = .ok (.tuple #[.bool false]) w) ∨
    ∃ (r1 r2 : List (κ × α)) (k : κ) (v : α) (w1 : World), rem = r1 ++ (k, v) :: r2 ∧ (∀ ty, (Instr.next (.pointer (some ⟨r, 0, none⟩)) false ty).run P w = .ok (.tuple #[.bool true, ek k, ev v]) w1) ∧
      IterP ek ev w1 r m l (r1 ++ r2) ∧ Own [r] w w1 ∧ w1.heap.size = w.heap.size ∧ (Instr.entry (.pointer (some ⟨r, 0, none⟩))).run P w1 = .ok (.tuple #[ek k, ev v]) w1 := by
  obtain ⟨l', h1, h2⟩ := h
  rcases h2.next (P := P) 0 with ⟨h3, h4⟩ | ⟨r1, r2, p, w1, h3, h4, h5, h6, h7, h8⟩
  · left
    exact ⟨by simpa [onV] using h3, fun ty => h4⟩
  · right
    obtain ⟨s1, s2, hs, hs1, hs2⟩ := List.map_eq_append_iff.1 h3
    obtain ⟨q, s3, hs3, hq, hs4⟩ := List.map_eq_cons_iff.1 hs2
    obtain ⟨k, v⟩ := q
    have hk : k = p.1 := (Prod.mk.inj hq).1
    have hv : ev v = p.2 := (Prod.mk.inj hq).2
    refine ⟨s1, s3, k, v, w1, by rw [hs, hs3], fun ty => by rw [hk, hv]; exact h4, ⟨l', h1, ?_⟩, h6, h7, by rw [hk, hv]; exact h8⟩
    have : onV ev (s1 ++ s3) = r1 ++ r2 := by unfold onV; rw [List.map_append, hs1, hs4]
    rw [this]
    exact h5
theorem IterP.delete [BEq κ] [LawfulBEq κ] {w : World} {r m : Nat} {l rem : List (κ × α)} (h : IterP ek ev w r m l rem) (K : KeyKind P kt ek) {t e : TypeId} (ht : P.underlying t = some (.map kt e)) (k : κ) (t2 : TypeId) (hk : ∀ p ∈ rem, p.1 ≠ k) :
    ∃ w1, (∀ ty, (Builtin.delete_ #[t, t2] ty #[.map (some m), ek k]).run P w = .ok (.tuple #[]) w1) ∧ IterP ek ev w1 r m (aDel l k) rem ∧ Own [m] w w1 ∧ w1.heap.size = w.heap.size := by
  obtain ⟨l', h1, h2⟩ := h
  obtain ⟨w1, r1, r2, r3⟩ := h2.delete K ht k t2 0 (fun p hp => by
    obtain ⟨q, hq, rfl⟩ := List.mem_map.1 hp
    exact hk q hq)
  rw [aDel_onV] at r2
  exact ⟨w1, fun ty => r1, ⟨_, h1.filter _, r2⟩, r3⟩
end
end Go.Proofs.YtacbahmmmndmbaaGreatDoor
