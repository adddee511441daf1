/- Lists that rise by a key, as the document keeps them: where a key stands, or would. No program in sight. -/
import Derived.Test.YtjfmbjgniajagaaGreatDoorOrd
namespace Go.Proofs.YtjfmbjgniajagaaGreatDoor
open Go.RowKit

section
variable {α : Type} {key : α → ByteArray}
/-- Where a key stands, or would. -/
def rPos (key : α → ByteArray) (r : List α) (n : ByteArray) : Nat := (r.takeWhile fun p => sless (key p) n).length
/-- Is it there? -/
def rHas (key : α → ByteArray) (r : List α) (n : ByteArray) : Bool := match r[rPos key r n]? with | some p => (key p).toList == n.toList | none => false
/-- A new one at its place. -/
def rIns (key : α → ByteArray) (r : List α) (x : α) : List α := r.take (rPos key r (key x)) ++ [x] ++ r.drop (rPos key r (key x))

theorem rPos_le (r : List α) (n : ByteArray) : rPos key r n ≤ r.length := (List.takeWhile_prefix _).length_le
theorem rPos_lt {r : List α} {n : ByteArray} {k : Nat} (h : k < rPos key r n) : ∃ p, r[k]? = some p ∧ sless (key p) n = true := by
  have hk : k < (r.takeWhile fun p => sless (key p) n).length := h
  refine ⟨(r.takeWhile fun p => sless (key p) n)[k], ?_, List.all_eq_true.1 (List.all_takeWhile (p := fun p => sless (key p) n) (l := r)) _ (List.getElem_mem hk)⟩
  obtain ⟨s, hs⟩ := List.takeWhile_prefix (p := fun p => sless (key p) n) (l := r)
  have e : ((r.takeWhile fun p => sless (key p) n) ++ s)[k]? = some (r.takeWhile fun p => sless (key p) n)[k] := by
    rw [List.getElem?_append_left hk]
    exact List.getElem?_eq_getElem hk
  rwa [hs] at e
theorem rPos_at {r : List α} {n : ByteArray} {p : α} (h : r[rPos key r n]? = some p) : sless (key p) n = false := by
  unfold rPos at h
  induction r with
  | nil => simp at h
  | cons q r ih =>
    cases hq : sless (key q) n
    · simp [hq] at h
      rw [← h]; exact hq
    · simp [hq] at h
      exact ih h
theorem rPos_split (r : List α) (n : ByteArray) : r.take (rPos key r n) = r.takeWhile (fun p => sless (key p) n) ∧ r.drop (rPos key r n) = r.dropWhile (fun p => sless (key p) n) := by
  have h := List.takeWhile_append_dropWhile (p := fun p : α => sless (key p) n) (l := r)
  have h1 := List.take_left (l₁ := r.takeWhile fun p => sless (key p) n) (l₂ := r.dropWhile fun p => sless (key p) n)
  have h2 := List.drop_left (l₁ := r.takeWhile fun p => sless (key p) n) (l₂ := r.dropWhile fun p => sless (key p) n)
  rw [h] at h1 h2
  exact ⟨h1, h2⟩
theorem rises_nodup {r : List α} (h : Rises key r) : (r.map key).Nodup := by
  unfold Rises at h
  rw [List.nodup_iff_pairwise_ne, List.pairwise_map]
  refine h.imp fun {a b} hab e => ?_
  rw [e, sless_irrefl] at hab
  cases hab
/-- A key that is known stands at its place. -/
theorem rPos_known {r : List α} (hr : Rises key r) {n : ByteArray} {p : α} (hp : p ∈ r) (hn : key p = n) : r[rPos key r n]? = some p := by
  have h := List.takeWhile_append_dropWhile (p := fun p : α => sless (key p) n) (l := r)
  have hd := (rPos_split (key := key) r n).2
  have hpd : p ∈ r.dropWhile (fun p => sless (key p) n) := by
    rw [← h] at hp
    rcases List.mem_append.1 hp with h1 | h1
    · have := List.all_eq_true.1 (List.all_takeWhile (p := fun p : α => sless (key p) n) (l := r)) p h1
      rw [hn, sless_irrefl] at this
      cases this
    · exact h1
  cases hq : r.dropWhile (fun p => sless (key p) n) with
  | nil => rw [hq] at hpd; cases hpd
  | cons q s =>
    have hqk : r[rPos key r n]? = some q := by
      have : (r.drop (rPos key r n))[0]? = some q := by rw [hd, hq]; rfl
      simpa using this
    rw [hqk]
    rw [hq] at hpd
    rcases List.mem_cons.1 hpd with rfl | h2
    · rfl
    · exfalso
      have hns := rPos_at hqk
      have hr2 : (r.dropWhile (fun p => sless (key p) n)).Pairwise (fun x y => sless (key x) (key y) = true) := hr.sublist (List.dropWhile_sublist _)
      rw [hq, List.pairwise_cons] at hr2
      have := hr2.1 p h2
      rw [hn, hns] at this
      cases this
theorem rHas_some {r : List α} {n : ByteArray} (h : rHas key r n = true) : ∃ p, r[rPos key r n]? = some p ∧ key p = n := by
  unfold rHas at h
  cases hp : r[rPos key r n]? with
  | none => rw [hp] at h; cases h
  | some p => rw [hp] at h; exact ⟨p, rfl, toList_inj (by simpa using h)⟩
theorem rHas_none {r : List α} (hr : Rises key r) {n : ByteArray} (h : rHas key r n = false) : ∀ p ∈ r, key p ≠ n := by
  intro p hp e
  unfold rHas at h
  rw [rPos_known hr hp e] at h
  simp [e] at h
theorem rHas_of {r : List α} (hr : Rises key r) {n : ByteArray} {p : α} (hp : p ∈ r) (hn : key p = n) : rHas key r n = true := by
  unfold rHas
  rw [rPos_known hr hp hn]
  simp [hn]
theorem rHas_no {r : List α} {n : ByteArray} (h : ∀ p ∈ r, key p ≠ n) : rHas key r n = false := by
  cases hh : rHas key r n
  · rfl
  · obtain ⟨p, hp, he⟩ := rHas_some hh
    exact absurd he (h p (List.mem_of_getElem? hp))
theorem rIns_perm (r : List α) (x : α) : (rIns key r x).Perm (x :: r) := by
  unfold rIns
  conv => rhs; rw [← List.take_append_drop (rPos key r (key x)) r]
  rw [List.append_assoc]
  exact List.perm_middle
theorem rIns_len (r : List α) (x : α) : (rIns key r x).length = r.length + 1 := by simpa using (rIns_perm (key := key) r x).length_eq
theorem rIns_rises {r : List α} (hr : Rises key r) {x : α} (hn : ∀ p ∈ r, key p ≠ key x) : Rises key (rIns key r x) := by
  obtain ⟨e1, e2⟩ := rPos_split (key := key) r (key x)
  unfold Rises at hr ⊢
  unfold rIns
  rw [e1, e2]
  have h := List.takeWhile_append_dropWhile (p := fun p : α => sless (key p) (key x)) (l := r)
  have hr2 := hr
  rw [← h, List.pairwise_append] at hr2
  obtain ⟨a1, a2, a3⟩ := hr2
  have hlt : ∀ y ∈ r.takeWhile (fun p => sless (key p) (key x)), sless (key y) (key x) = true := fun y hy => List.all_eq_true.1 (List.all_takeWhile (p := fun p : α => sless (key p) (key x)) (l := r)) y hy
  have hgt : ∀ y ∈ r.dropWhile (fun p => sless (key p) (key x)), sless (key x) (key y) = true := by
    intro y hy
    cases hq : r.dropWhile (fun p => sless (key p) (key x)) with
    | nil => rw [hq] at hy; cases hy
    | cons q s =>
      have hqk : r[rPos key r (key x)]? = some q := by
        have : (r.drop (rPos key r (key x)))[0]? = some q := by rw [e2, hq]; rfl
        simpa using this
      have hqr : q ∈ r := List.mem_of_getElem? hqk
      have hnq : sless (key x) (key q) = true := sless_of (rPos_at hqk) (Ne.symm (hn q hqr))
      rw [hq] at hy a2
      rw [List.pairwise_cons] at a2
      rcases List.mem_cons.1 hy with rfl | h2
      · exact hnq
      · exact sless_trans hnq (a2.1 y h2)
  rw [List.pairwise_append, List.pairwise_append]
  refine ⟨⟨a1, List.pairwise_singleton _ _, ?_⟩, a2, ?_⟩
  · intro y hy z hz
    simp at hz
    subst hz
    exact hlt y hy
  · intro y hy z hz
    rcases List.mem_append.1 hy with h1 | h1
    · exact a3 y h1 z hz
    · simp at h1
      subst h1
      exact hgt z hz
theorem cons_erase : ∀ (l : List α) (i : Nat) (h : i < l.length), (l[i] :: l.eraseIdx i).Perm l
  | [], i, h => absurd h (Nat.not_lt_zero i)
  | x :: r, 0, _ => List.Perm.refl _
  | x :: r, i + 1, h => by
    simp only [List.getElem_cons_succ, List.eraseIdx_cons_succ]
    exact (List.Perm.swap x _ _).trans (List.Perm.cons x (cons_erase r i (by simpa using h)))
theorem set_perm {l : List α} {i : Nat} (h : i < l.length) (x : α) : (l.set i x).Perm (x :: l.eraseIdx i) := by
  have h2 : i < (l.set i x).length := by simpa using h
  have := (cons_erase _ i h2).symm
  simpa [List.eraseIdx_set_eq] using this
theorem set_rises {r : List α} (hr : Rises key r) {k : Nat} {p x : α} (hk : r[k]? = some p) (hx : key x = key p) : Rises key (r.set k x) := by
  have hkl := (List.getElem?_eq_some_iff.1 hk).1
  have ek := (List.getElem?_eq_some_iff.1 hk).2
  have hm : (r.set k x).map key = r.map key := by
    rw [List.map_set]
    have : (r.map key)[k]'(by simpa using hkl) = key x := by simp [ek, hx]
    rw [← this, List.set_getElem_self]
  unfold Rises at hr ⊢
  have h2 : (r.map key).Pairwise (fun x y => sless x y = true) := List.pairwise_map.2 hr
  rw [← hm] at h2
  exact List.pairwise_map.1 h2
theorem erase_rises {r : List α} (hr : Rises key r) (k : Nat) : Rises key (r.eraseIdx k) := hr.sublist (List.eraseIdx_sublist ..)
end
end Go.Proofs.YtjfmbjgniajagaaGreatDoor
