/- The document's store (crierref27), plain: it answers as the program's. -/
import Derived.Test.YthepdibnnnednaaDoorRetainGood
import Derived.Test.YthepdibnnnednaaDoorRise
import Derived.Test.YthepdibnnnednaaDoorMatch
namespace Go.Proofs.YthepdibnnnednaaDoor
open Go.RowKit

abbrev tKey : Ms → ByteArray := Ms.top
def dKeep (r : List Ms) (x : Ms) : (Bool × Int) × List Ms :=
  if lvName x.top = false then ((false, 13), r)
  else if x.text.toList.isEmpty then ((rHas tKey r x.top, 0), if rHas tKey r x.top then r.take (rPos tKey r x.top) ++ r.drop (rPos tKey r x.top + 1) else r)
  else if rHas tKey r x.top then ((true, 0), r.set (rPos tKey r x.top) x.stays)
  else if 32 ≤ r.length then ((false, 6), r)
  else ((false, 0), rIns tKey r x.stays)
def dGet (r : List Ms) (t : ByteArray) : Ms × Bool := if rHas tKey r t then (r.getD (rPos tKey r t) Ms.zero, true) else (Ms.zero, false)

/-- Both know the same. -/
structure Like (l : Msgs) (r : List Ms) : Prop where
  rise : Rises tKey r
  perm : r.Perm (l.map (·.2))
theorem like_nil : Like [] [] := ⟨List.Pairwise.nil, List.Perm.refl _⟩
theorem like_len {l : Msgs} {r : List Ms} (h : Like l r) : r.length = l.length := by rw [h.perm.length_eq, List.length_map]
theorem good_of {l : Msgs} (h : Good l) {p : ByteArray × Ms} (hp : p ∈ l) : p.2.top = p.1 := (h p hp).1
theorem aGet_good {l : Msgs} (h : Good l) {t : ByteArray} {m : Ms} (hg : aGet l t = some m) : m.top = t ∧ m ∈ l.map (·.2) := by
  have hm := aGet_mem hg
  exact ⟨(h _ hm).1, List.mem_map_of_mem hm⟩
theorem aGet_isSome {α : Type} {l : List (ByteArray × α)} {t : ByteArray} : (aGet l t).isSome = true ↔ ∃ p ∈ l, p.1 = t := by
  unfold aGet
  rw [Option.isSome_map, List.find?_isSome]
  simp
theorem like_has {l : Msgs} {r : List Ms} (hg : Good l) (h : Like l r) (t : ByteArray) : rHas tKey r t = (aGet l t).isSome := by
  rw [Bool.eq_iff_iff]
  constructor
  · intro hh
    obtain ⟨p, hp, he⟩ := rHas_some hh
    have hm := h.perm.subset (List.mem_of_getElem? hp)
    obtain ⟨q, hq, rfl⟩ := List.mem_map.1 hm
    exact aGet_isSome.2 ⟨q, hq, by rw [← good_of hg hq]; exact he⟩
  · intro hh
    obtain ⟨q, hq, rfl⟩ := aGet_isSome.1 hh
    exact rHas_of h.rise (h.perm.symm.subset (List.mem_map_of_mem hq)) (good_of hg hq)
theorem like_get {l : Msgs} {r : List Ms} (hg : Good l) (_hn : (l.map (·.1)).Nodup) (h : Like l r) (t : ByteArray) : dGet r t = rGet l t := by
  unfold dGet rGet
  rw [like_has hg h t]
  cases hh : aGet l t with
  | none => simp
  | some m =>
    obtain ⟨h1, h2⟩ := aGet_good hg hh
    have hk := rPos_known (key := tKey) h.rise (h.perm.symm.subset h2) h1
    simp [List.getD, hk]
/-- Taking one away. -/
theorem erase_filter {r : List Ms} (hr : Rises tKey r) {t : ByteArray} (hh : rHas tKey r t = true) : (r.take (rPos tKey r t) ++ r.drop (rPos tKey r t + 1)).Perm (r.filter fun p => !(p.top == t)) ∧ Rises tKey (r.take (rPos tKey r t) ++ r.drop (rPos tKey r t + 1)) := by
  rw [← List.eraseIdx_eq_take_drop_succ]
  refine ⟨?_, erase_rises hr _⟩
  obtain ⟨p, hp, he⟩ := rHas_some hh
  obtain ⟨hi, hpe⟩ := List.getElem?_eq_some_iff.1 hp
  have hc := cons_erase r (rPos tKey r t) hi
  rw [hpe] at hc
  have hf := hc.filter (fun p => !(p.top == t))
  have hpt : (!(p.top == t)) = false := by simp [show p.top = t from he]
  rw [List.filter_cons, hpt, if_neg (by simp)] at hf
  have hall : (r.eraseIdx (rPos tKey r t)).filter (fun p => !(p.top == t)) = r.eraseIdx (rPos tKey r t) := by
    refine List.filter_eq_self.2 fun q hq => ?_
    have hnd := rises_nodup hr
    have h2 := (hc.map tKey).nodup_iff.2 hnd
    rw [List.map_cons, List.nodup_cons] at h2
    have : tKey q ≠ tKey p := fun e => h2.1 (e ▸ List.mem_map_of_mem hq)
    simp only [Bool.not_eq_true', beq_eq_false_iff_ne, ne_eq]
    rw [← he]
    exact this
  rw [hall] at hf
  exact hf
theorem like_del {l : Msgs} {r : List Ms} (hg : Good l) (h : Like l r) (t : ByteArray) : Like (aDel l t) (if rHas tKey r t then r.take (rPos tKey r t) ++ r.drop (rPos tKey r t + 1) else r) := by
  have e : ((aDel l t).map (·.2)) = (l.map (·.2)).filter fun p => !(p.top == t) := by
    unfold aDel
    rw [List.filter_map]
    congr 1
    refine List.filter_congr fun p hp => ?_
    show _ = !(p.2.top == t)
    rw [good_of hg hp]
  cases hh : rHas tKey r t with
  | true =>
    obtain ⟨h1, h2⟩ := erase_filter h.rise hh
    exact ⟨h2, h1.trans (e ▸ h.perm.filter _)⟩
  | false =>
    refine ⟨h.rise, ?_⟩
    simp only [Bool.false_eq_true, if_false]
    have h0 := rHas_none h.rise hh
    have : r.filter (fun p => !(p.top == t)) = r := List.filter_eq_self.2 fun p hp => by simpa using h0 p hp
    rw [e, ← this]
    exact (h.perm.filter _)
theorem like_keep {l : Msgs} {r : List Ms} (hg : GoodSt l) (hn : (l.map (·.1)).Nodup) (h : Like l r) (x : Ms) : (dKeep r x).1 = (rKeep l x).1 ∧ Like (rKeep l x).2 (dKeep r x).2 := by
  have hh := like_has hg.1 h x.top
  have hl := like_len h
  unfold dKeep rKeep
  rw [hh, hl]
  by_cases h1 : lvName x.top = false
  · rw [if_pos h1, if_pos h1]; exact ⟨rfl, h⟩
  · rw [if_neg h1, if_neg h1]
    by_cases h2 : x.text.toList.isEmpty = true
    · rw [if_pos h2, if_pos h2]
      refine ⟨rfl, ?_⟩
      have := like_del hg.1 h x.top
      rw [hh] at this
      exact this
    · rw [if_neg h2, if_neg h2]
      cases hs : (aGet l x.top).isSome with
      | true =>
        rw [hs] at hh
        rw [if_pos rfl, if_neg (by simp)]
        refine ⟨rfl, ?_⟩
        obtain ⟨p, hp, he⟩ := rHas_some hh
        obtain ⟨hi, hpe⟩ := List.getElem?_eq_some_iff.1 hp
        refine ⟨set_rises h.rise hp (show x.stays.top = p.top from he.symm), ?_⟩
        have hP := (aPut_perm hn x.top x.stays).map (·.2)
        have hD := like_del hg.1 h x.top
        rw [hh, if_pos rfl, ← List.eraseIdx_eq_take_drop_succ] at hD
        refine (set_perm hi x.stays).trans (List.Perm.trans ?_ hP.symm)
        exact List.Perm.cons _ hD.perm
      | false =>
        rw [hs] at hh
        by_cases h3 : 32 ≤ l.length
        · rw [if_neg (by simp), if_pos h3, if_pos ⟨rfl, h3⟩]
          exact ⟨rfl, h⟩
        · rw [if_neg (by simp), if_neg h3, if_neg (fun hc => h3 hc.2)]
          refine ⟨rfl, ?_⟩
          have hP := (aPut_perm hn x.top x.stays).map (·.2)
          have hD := like_del hg.1 h x.top
          rw [hh] at hD
          refine ⟨rIns_rises h.rise (x := x.stays) (fun p hp => rHas_none h.rise hh p hp), ?_⟩
          refine (rIns_perm r x.stays).trans (List.Perm.trans ?_ hP.symm)
          exact List.Perm.cons _ hD.perm
theorem like_those {q : ByteArray → Bool} {l : Msgs} {r a : List Ms} (hg : Good l) (h : Like l r) (ha : Those q l a) : a = r.filter fun x => q x.top := by
  refine rises_eq ?_ ha.2 (h.rise.filter _)
  refine ha.1.trans ?_
  have e : wanted q l = (l.map (·.2)).filter fun x => q x.top := by
    unfold wanted
    rw [List.filter_map]
    congr 1
    refine List.filter_congr fun p hp => ?_
    show _ = q p.2.top
    rw [good_of hg hp]
  rw [e]
  exact (h.perm.filter _).symm
theorem like_all {l : Msgs} {r a : List Ms} (hg : Good l) (h : Like l r) (ha : Those lvName l a) : a = r := by
  rw [like_those hg h ha]
  refine List.filter_eq_self.2 fun x hx => ?_
  obtain ⟨p, hp, rfl⟩ := List.mem_map.1 (h.perm.subset hx)
  rw [good_of hg hp]
  exact (hg p hp).2.2.2
end Go.Proofs.YthepdibnnnednaaDoor
