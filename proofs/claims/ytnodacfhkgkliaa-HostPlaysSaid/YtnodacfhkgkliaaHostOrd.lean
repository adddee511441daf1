/- The plain law of HostPlays: what the hosts' table and the document's list answer is one. No program in sight. -/
import Derived.Test.YtnodacfhkgkliaaHostRefNil
namespace Go.Proofs.Ytnodacfhkgkliaa
open Go.RowKit Go.Sort Go.Lib

/-- The document's list: those that are known, rising by their names. -/
structure Alike (st r : HSt) : Prop where
  perm : r.Perm st
  rises : Rises (fun p : ByteArray × Bool => p.1) r
theorem Alike.nodup {st r : HSt} (h : Alike st r) : (r.map (·.1)).Nodup := by
  have := h.rises
  unfold Rises at this
  rw [List.nodup_iff_pairwise_ne, List.pairwise_map]
  refine this.imp fun {a b} hab e => ?_
  change sless a.1 b.1 = true at hab
  rw [e, sless_irrefl] at hab
  cases hab
theorem rBelow_split (r : HSt) (n : ByteArray) : r.take (rBelow r n) = r.takeWhile (fun p => sless p.1 n) ∧ r.drop (rBelow r n) = r.dropWhile (fun p => sless p.1 n) := by
  have h := List.takeWhile_append_dropWhile (p := fun p : ByteArray × Bool => sless p.1 n) (l := r)
  have h1 := List.take_left (l₁ := r.takeWhile fun p => sless p.1 n) (l₂ := r.dropWhile fun p => sless p.1 n)
  have h2 := List.drop_left (l₁ := r.takeWhile fun p => sless p.1 n) (l₂ := r.dropWhile fun p => sless p.1 n)
  rw [h] at h1 h2
  exact ⟨h1, h2⟩
/-- A name that is known stands at its place. -/
theorem rBelow_known {r : HSt} (hr : Rises (fun p : ByteArray × Bool => p.1) r) {n : ByteArray} {p : ByteArray × Bool} (hp : p ∈ r) (hn : p.1 = n) : r[rBelow r n]? = some p := by
  have h := List.takeWhile_append_dropWhile (p := fun p : ByteArray × Bool => sless p.1 n) (l := r)
  have hd := (rBelow_split r n).2
  have hpd : p ∈ r.dropWhile (fun p => sless p.1 n) := by
    rw [← h] at hp
    rcases List.mem_append.1 hp with h1 | h1
    · have := List.all_eq_true.1 (List.all_takeWhile (p := fun p : ByteArray × Bool => sless p.1 n) (l := r)) p h1
      rw [hn, sless_irrefl] at this
      cases this
    · exact h1
  cases hq : r.dropWhile (fun p => sless p.1 n) with
  | nil => rw [hq] at hpd; cases hpd
  | cons q s =>
    have hqk : r[rBelow r n]? = some q := by
      have : (r.drop (rBelow r n))[0]? = some q := by rw [hd, hq]; rfl
      simpa using this
    rw [hqk]
    rw [hq] at hpd
    rcases List.mem_cons.1 hpd with rfl | h2
    · rfl
    · exfalso
      have hns := rBelow_at hqk
      have hr2 : (r.dropWhile (fun p => sless p.1 n)).Pairwise (fun x y => sless x.1 y.1 = true) := hr.sublist (List.dropWhile_sublist _)
      rw [hq, List.pairwise_cons] at hr2
      have := hr2.1 p h2
      rw [hn, hns] at this
      cases this
/-- A new name goes to its place. -/
theorem rIns_perm (r : HSt) (n : ByteArray) (on : Bool) : (rIns r n on).Perm (r ++ [(n, on)]) := by
  unfold rIns
  conv => rhs; rw [← List.take_append_drop (rBelow r n) r]
  rw [List.append_assoc, List.append_assoc]
  exact List.Perm.append_left _ List.perm_append_comm
theorem rIns_rises {r : HSt} (hr : Rises (fun p : ByteArray × Bool => p.1) r) {n : ByteArray} (on : Bool) (hn : ∀ p ∈ r, p.1 ≠ n) : Rises (fun p : ByteArray × Bool => p.1) (rIns r n on) := by
  obtain ⟨e1, e2⟩ := rBelow_split r n
  unfold Rises at hr ⊢
  unfold rIns
  rw [e1, e2]
  have h := List.takeWhile_append_dropWhile (p := fun p : ByteArray × Bool => sless p.1 n) (l := r)
  have hr2 := hr
  rw [← h, List.pairwise_append] at hr2
  obtain ⟨a1, a2, a3⟩ := hr2
  have hlt : ∀ x ∈ r.takeWhile (fun p => sless p.1 n), sless x.1 n = true := fun x hx => List.all_eq_true.1 (List.all_takeWhile (p := fun p : ByteArray × Bool => sless p.1 n) (l := r)) x hx
  have hgt : ∀ x ∈ r.dropWhile (fun p => sless p.1 n), sless n x.1 = true := by
    intro x hx
    cases hq : r.dropWhile (fun p => sless p.1 n) with
    | nil => rw [hq] at hx; cases hx
    | cons q s =>
      have hqk : r[rBelow r n]? = some q := by
        have : (r.drop (rBelow r n))[0]? = some q := by rw [e2, hq]; rfl
        simpa using this
      have hqr : q ∈ r := List.mem_of_getElem? hqk
      have hnq : sless n q.1 = true := sless_of (rBelow_at hqk) (Ne.symm (hn q hqr))
      rw [hq] at hx a2
      rw [List.pairwise_cons] at a2
      rcases List.mem_cons.1 hx with rfl | h2
      · exact hnq
      · exact sless_trans hnq (a2.1 x h2)
  rw [List.pairwise_append, List.pairwise_append]
  refine ⟨⟨a1, List.pairwise_singleton _ _, ?_⟩, a2, ?_⟩
  · intro x hx y hy
    simp at hy
    subst hy
    exact hlt x hx
  · intro x hx y hy
    rcases List.mem_append.1 hx with h1 | h1
    · exact a3 x h1 y hy
    · simp at h1
      subst h1
      exact hgt y hy
theorem cons_erase {α : Type} : ∀ (l : List α) (i : Nat) (h : i < l.length), (l[i] :: l.eraseIdx i).Perm l
  | [], i, h => absurd h (Nat.not_lt_zero i)
  | x :: r, 0, _ => List.Perm.refl _
  | x :: r, i + 1, h => by
    simp only [List.getElem_cons_succ, List.eraseIdx_cons_succ]
    exact (List.Perm.swap x _ _).trans (List.Perm.cons x (cons_erase r i (by simpa using h)))
theorem set_perm {α : Type} {l : List α} {i : Nat} (h : i < l.length) (x : α) : (l.set i x).Perm (x :: l.eraseIdx i) := by
  have h2 : i < (l.set i x).length := by simpa using h
  have := (cons_erase _ i h2).symm
  simpa [List.eraseIdx_set_eq] using this
theorem set_alike {st r : HSt} (h : Alike st r) {i k : Nat} {p x : ByteArray × Bool} (hi : st[i]? = some p) (hk : r[k]? = some p) (hx : x.1 = p.1) : Alike (st.set i x) (r.set k x) := by
  have hil := (List.getElem?_eq_some_iff.1 hi).1
  have hkl := (List.getElem?_eq_some_iff.1 hk).1
  have ei := (List.getElem?_eq_some_iff.1 hi).2
  have ek := (List.getElem?_eq_some_iff.1 hk).2
  refine ⟨?_, ?_⟩
  · have p1 := cons_erase _ i hil
    have p2 := cons_erase _ k hkl
    rw [ei] at p1
    rw [ek] at p2
    have p3 : (r.eraseIdx k).Perm (st.eraseIdx i) := (List.perm_cons p).1 (p2.trans (h.perm.trans p1.symm))
    exact (set_perm hkl x).trans ((List.Perm.cons x p3).trans (set_perm hil x).symm)
  · have hm : (r.set k x).map (·.1) = r.map (·.1) := by
      rw [List.map_set]
      have : (r.map (·.1))[k]'(by simpa using hkl) = x.1 := by simp [ek, hx]
      rw [← this, List.set_getElem_self]
    have h1 := h.rises
    unfold Rises at h1 ⊢
    have h2 : (r.map (·.1)).Pairwise (fun x y => sless x y = true) := List.pairwise_map.2 h1
    rw [← hm] at h2
    exact List.pairwise_map.1 h2
theorem put_alike {st r : HSt} (h : Alike st r) (n : ByteArray) (on : Bool) : (hPut st n on).1 = (rPut r n on).1 ∧ Alike (hPut st n on).2 (rPut r n on).2 := by
  have hlen := h.perm.length_eq
  unfold hPut
  cases hf : hFind st n with
  | some i =>
    have hi := hFind_lt hf
    have hname := hFind_name hf
    have hat : hAt st i = st[i] := by simp [hAt, List.getD, hi]
    rw [hat] at hname
    have hmem : st[i] ∈ r := h.perm.symm.subset (List.getElem_mem hi)
    have hk := rBelow_known h.rises hmem hname
    unfold rPut
    rw [hk]
    simp only [hname, beq_self_eq_true, if_true]
    exact ⟨by first | rfl | trivial, set_alike h (List.getElem?_eq_getElem hi) hk hname.symm⟩
  | none =>
    have hno : ∀ p ∈ r, p.1 ≠ n := by
      intro p hp e
      unfold hFind at hf
      rw [List.findIdx?_eq_none_iff] at hf
      have := hf p (h.perm.subset hp)
      simp [e] at this
    have hr : rPut r n on = if 4 ≤ r.length then (8, r) else (1, rIns r n on) := by
      unfold rPut
      cases hk : r[rBelow r n]? with
      | none => rfl
      | some p =>
        have hne := hno p (List.mem_of_getElem? hk)
        have hb : (p.1.toList == n.toList) = false := by
          rw [← beq_toListBytes]
          simpa using hne
        simp only [hb, Bool.false_eq_true, if_false]
    rw [hr, hlen]
    simp only
    by_cases h4 : 4 ≤ st.length
    · rw [if_pos h4, if_pos h4]
      exact ⟨by first | rfl | trivial, h⟩
    · rw [if_neg h4, if_neg h4]
      exact ⟨by first | rfl | trivial, (rIns_perm r n on).trans (h.perm.append_right _), rIns_rises h.rises on hno⟩
theorem take_alike {st r : HSt} (h : Alike st r) (n t : ByteArray) : (hTake st n t).1 = (rTake' r n t).1 ∧ Alike (hTake st n t).2 (rTake' r n t).2 := by
  unfold hTake rTake'
  by_cases h1 : n.toList = []
  · rw [if_pos h1, if_pos h1]; exact ⟨rfl, h⟩
  · rw [if_neg h1, if_neg h1]
    by_cases h2 : t.toList = upB
    · rw [if_pos h2, if_pos h2]; exact put_alike h n true
    · rw [if_neg h2, if_neg h2]
      by_cases h3 : t.toList = downB
      · rw [if_pos h3, if_pos h3]; exact put_alike h n false
      · rw [if_neg h3, if_neg h3]; exact ⟨rfl, h⟩
/-- What All hands back is the document's list. -/
theorem all_alike {st r l : HSt} (h : Alike st r) (hp : l.Perm st) (hs : l.Pairwise (fun x y => sless y.1 x.1 = false)) : l = r := by
  have hp2 : l.Perm r := hp.trans h.perm.symm
  refine rises_eq hp2 (rises_of hs ?_) h.rises
  exact ((hp2.map _).nodup_iff).2 h.nodup
end Go.Proofs.Ytnodacfhkgkliaa
