/- What stays is in order: plain. -/
import Derived.Test.YthepdibnnnednaaDoorRetainAwake
import Derived.Test.YthepdibnnnednaaDoorOrd
namespace Go.Proofs.YthepdibnnnednaaDoor
open Go.RowKit

/-- Each message stands under its own topic, stays, and has a text; its topic may be one. -/
def Good (l : Msgs) : Prop := ∀ p ∈ l, p.2.top = p.1 ∧ p.2.ret = true ∧ p.2.text.toList.isEmpty = false ∧ lvName p.1 = true
def GoodSt (l : Msgs) : Prop := Good l ∧ l.length ≤ 32
theorem goodSt_nil : GoodSt [] := ⟨fun p hp => (by cases hp), by simp⟩
theorem aPut_mem {α : Type} {l : List (ByteArray × α)} {k : ByteArray} {v : α} {p : ByteArray × α} (h : p ∈ aPut l k v) : p = (k, v) ∨ p ∈ l := by
  induction l with
  | nil => simp [aPut] at h; exact .inl h
  | cons q r ih =>
    unfold aPut at h
    split at h
    · rcases List.mem_cons.1 h with h | h
      · exact .inl h
      · exact .inr (List.mem_cons_of_mem _ h)
    · rcases List.mem_cons.1 h with h | h
      · exact .inr (h ▸ List.mem_cons_self ..)
      · rcases ih h with h | h
        · exact .inl h
        · exact .inr (List.mem_cons_of_mem _ h)
theorem aPut_len {α : Type} (l : List (ByteArray × α)) (k : ByteArray) (v : α) : (aPut l k v).length = if (aGet l k).isSome then l.length else l.length + 1 := by
  induction l with
  | nil => simp [aPut, aGet]
  | cons p r ih =>
    unfold aPut
    by_cases hk : p.1 == k
    · simp [hk, aGet]
    · simp only [hk, Bool.false_eq_true, if_false, List.length_cons]
      rw [ih]
      have : aGet (p :: r) k = aGet r k := by simp [aGet, hk]
      rw [this]
      split <;> rfl
theorem keep_good {l : Msgs} (x : Ms) (h : GoodSt l) : GoodSt (rKeep l x).2 := by
  obtain ⟨h1, h2⟩ := h
  unfold rKeep
  split
  · exact ⟨h1, h2⟩
  · rename_i hn
    split
    · refine ⟨fun p hp => h1 p (List.mem_filter.1 hp).1, ?_⟩
      have : (aDel l x.top).length ≤ l.length := List.length_filter_le _ _
      show (aDel l x.top).length ≤ 32
      omega
    · rename_i ht
      split
      · exact ⟨h1, h2⟩
      · rename_i hr
        refine ⟨fun p hp => ?_, ?_⟩
        · rcases aPut_mem hp with rfl | hp
          · exact ⟨rfl, rfl, by simpa [Ms.stays] using ht, by simpa using hn⟩
          · exact h1 p hp
        · show (aPut l x.top x.stays).length ≤ 32
          rw [aPut_len]
          split
          · exact h2
          · rename_i hs
            have : ¬ 32 ≤ l.length := fun h => hr ⟨by simpa using hs, h⟩
            omega

/-- The messages whose topics are wanted. -/
def wanted (q : ByteArray → Bool) (l : Msgs) : List Ms := (l.filter fun p => q p.1).map (·.2)
/-- Those that are handed back: the wanted ones, rising by their topics. -/
def Those (q : ByteArray → Bool) (l : Msgs) (r : List Ms) : Prop := r.Perm (wanted q l) ∧ Rises Ms.top r
theorem wanted_top {q : ByteArray → Bool} {l : Msgs} (h : Good l) : (wanted q l).map Ms.top = (l.filter fun p => q p.1).map (·.1) := by
  unfold wanted
  rw [List.map_map]
  refine List.map_congr_left fun p hp => ?_
  exact (h p (List.mem_filter.1 hp).1).1
theorem those_of {q : ByteArray → Bool} {l : Msgs} {r : List Ms} (h : Good l) (hn : (l.map (·.1)).Nodup) (hp : r.Perm (wanted q l)) (hs : r.Pairwise fun x y => sless y.top x.top = false) : Those q l r := by
  refine ⟨hp, rises_of hs ?_⟩
  have e := (hp.map Ms.top).nodup_iff
  rw [e, wanted_top h]
  exact (List.filter_sublist.map _).nodup hn
theorem wanted_all {l : Msgs} (h : Good l) : wanted lvName l = l.map (·.2) := by
  unfold wanted
  rw [List.filter_eq_self.2 fun p hp => (h p hp).2.2.2]
theorem wanted_wanted {q : ByteArray → Bool} {l : Msgs} (h : Good l) : (wanted lvName l).filter (fun x => q x.top) = wanted q l := by
  rw [wanted_all h]
  unfold wanted
  rw [List.filter_map]
  congr 1
  refine List.filter_congr fun p hp => ?_
  show q p.2.top = q p.1
  rw [(h p hp).1]
theorem those_wanted {q : ByteArray → Bool} {l : Msgs} {a r : List Ms} (h : Good l) (ha : Those lvName l a) (hr : Those q l r) : r = a.filter fun x => q x.top := by
  refine rises_eq ?_ hr.2 (ha.2.filter _)
  refine hr.1.trans ?_
  rw [← wanted_wanted h]
  exact (ha.1.filter _).symm
theorem those_len {l : Msgs} {a : List Ms} (h : Good l) (ha : Those lvName l a) : a.length = l.length := by
  rw [ha.1.length_eq, wanted_all h, List.length_map]
theorem those_mem {q : ByteArray → Bool} {l : Msgs} {a : List Ms} (h : Good l) (ha : Those q l a) {x : Ms} (hx : x ∈ a) : x.ret = true ∧ x.text.toList.isEmpty = false := by
  have := ha.1.subset hx
  obtain ⟨p, hp, rfl⟩ := List.mem_map.1 this
  have := h p (List.mem_filter.1 hp).1
  exact ⟨this.2.1, this.2.2.1⟩
end Go.Proofs.YthepdibnnnednaaDoor
