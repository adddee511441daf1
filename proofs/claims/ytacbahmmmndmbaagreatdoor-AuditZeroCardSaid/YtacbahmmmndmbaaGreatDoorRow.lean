/- A row of structs that lies in a block of its own: its elements as a list. -/
import Derived.Test.YtacbahmmmndmbaaGreatDoorBase
import Derived.Deep.AppendLies
namespace Go.Proofs.YtacbahmmmndmbaaGreatDoor
open Go.RowKit

section
variable {α : Type} {enc : α → List Value} {k : Nat}

/-- The elements' cells, one behind the other. -/
def rowOf (enc : α → List Value) (l : List α) : List Value := l.flatMap enc
theorem rowOf_len (hk : ∀ x, (enc x).length = k) (l : List α) : (rowOf enc l).length = l.length * k := by
  induction l with
  | nil => simp [rowOf]
  | cons x r ih =>
    simp only [rowOf, List.flatMap_cons, List.length_append, List.length_cons] at ih ⊢
    rw [ih, hk, Nat.succ_mul, Nat.add_comm]
theorem rowOf_append (l l' : List α) : rowOf enc (l ++ l') = rowOf enc l ++ rowOf enc l' := by simp [rowOf]
theorem rowOf_get (hk : ∀ x, (enc x).length = k) : ∀ (l : List α) (i c : Nat) (x : α), l[i]? = some x → c < k → (rowOf enc l)[i * k + c]? = (enc x)[c]?
  | [], i, c, x, h, _ => by simp at h
  | y :: r, 0, c, x, h, hc => by
    simp at h
    subst h
    simp only [rowOf, List.flatMap_cons, Nat.zero_mul, Nat.zero_add]
    rw [List.getElem?_append_left (by rw [hk]; exact hc)]
  | y :: r, i + 1, c, x, h, hc => by
    simp only [List.getElem?_cons_succ] at h
    have ih := rowOf_get hk r i c x h hc
    simp only [rowOf, List.flatMap_cons] at ih ⊢
    rw [List.getElem?_append_right (by rw [hk, Nat.succ_mul]; omega), hk, ← ih]
    congr 1
    rw [Nat.succ_mul]
    omega
/-- Block g holds the elements of l, ahead of what is spare. -/
def Row (T : TypeId) (enc : α → List Value) (k : Nat) (w : World) (g cap : Nat) (l : List α) : Prop :=
  ∃ cur, w.heap[g]? = some (.cells cur T (0, 0)) ∧ l.length ≤ cap ∧ cap ≤ maxLen ∧ cur.size = cap * k ∧ cur.toList.take (l.length * k) = rowOf enc l
theorem Row.own {T : TypeId} {S : List Nat} {w w' : World} {g cap : Nat} {l : List α} (h : Row T enc k w g cap l) (ho : Own S w w') (hg : g ∉ S) : Row T enc k w' g cap l :=
  let ⟨cur, h1, h2⟩ := h; ⟨cur, ho.heap h1 hg, h2⟩
theorem Row.lt {T : TypeId} {w : World} {g cap : Nat} {l : List α} (h : Row T enc k w g cap l) : g < w.heap.size := let ⟨_, h1, _⟩ := h; lt_of_heap h1
theorem Row.of_owns {T : TypeId} {w : World} {base g cap n : Nat} {l : List α} (h : w.ownsRow base T k (.slice (some ⟨g, 0, none⟩) n cap) n (rowOf enc l)) (hn : n = l.length) : Row T enc k w g cap l := by
  subst hn
  rcases h.2 with ⟨h0, _⟩ | ⟨g', cap', cur, he, _, hb, h1, h2, h3, h4⟩
  · cases h0
  · cases he
    exact ⟨cur, hb, h1, h2, h3, h4⟩
theorem owned_row {T : TypeId} {w : World} {v : Value} {n : Nat} {l : List α} (h : w.ownsRow 0 T k v n (rowOf enc l)) (hn : n = l.length) (hv : v ≠ .slice none 0 0) :
    ∃ g cap, v = .slice (some ⟨g, 0, none⟩) l.length cap ∧ Row T enc k w g cap l := by
  subst hn
  rcases h.2 with ⟨h0, _⟩ | ⟨g, cap, cur, he, _, hb, h1, h2, h3, h4⟩
  · exact absurd h0 hv
  · exact ⟨g, cap, he, cur, hb, h1, h2, h3, h4⟩
theorem Row.owns {T : TypeId} {w : World} {g cap : Nat} {l : List α} (h : Row T enc k w g cap l) (hk : ∀ x, (enc x).length = k) : w.ownsRow 0 T k (.slice (some ⟨g, 0, none⟩) l.length cap) l.length (rowOf enc l) := by
  obtain ⟨cur, hb, h1, h2, h3, h4⟩ := h
  exact ⟨rowOf_len hk l, .inr ⟨g, cap, cur, rfl, Nat.zero_le _, hb, h1, h2, h3, h4⟩⟩
theorem Row.flat {T : TypeId} {w : World} {g cap : Nat} {l : List α} (h : Row T enc k w g cap l) {t : Nat} {v : Value} (hv : (rowOf enc l)[t]? = some v) (ht : t < l.length * k) : w.cell? ⟨g, t, none⟩ = some v := by
  obtain ⟨cur, hb, h1, h2, h3, h4⟩ := h
  rw [cell_of_row w g t cur _ _ hb]
  rw [← h4, List.getElem?_take_of_lt ht, Array.getElem?_toList] at hv
  exact hv
theorem Row.cell {T : TypeId} {w : World} {g cap : Nat} {l : List α} (h : Row T enc k w g cap l) (hk : ∀ x, (enc x).length = k) {i c : Nat} {x : α} {v : Value} (hx : l[i]? = some x) (hc : (enc x)[c]? = some v) : w.cell? ⟨g, i * k + c, none⟩ = some v := by
  have hck : c < k := by rw [← hk x]; exact (List.getElem?_eq_some_iff.1 hc).1
  have hi : i < l.length := (List.getElem?_eq_some_iff.1 hx).1
  refine h.flat ((rowOf_get hk l i c x hx hck).trans hc) ?_
  have : (i + 1) * k ≤ l.length * k := Nat.mul_le_mul_right _ hi
  rw [Nat.succ_mul] at this
  omega
theorem Row.frozen {T : TypeId} {w : World} {g cap : Nat} {l : List α} (h : Row T enc k w g cap l) (j : Nat) : w.frozen? ⟨g, j, none⟩ = false := by
  obtain ⟨cur, hb, _⟩ := h
  exact frozen_of_row w g j cur _ hb

/-- What an append onto a row leaves. -/
theorem grown_own {w w' : World} {v : Value} {g n c : Nat} (h : w.grownBy w' v.ownBlock) (hv : v = .slice (some ⟨g, 0, none⟩) n c) : Own [g] w w' := by
  subst hv
  exact ⟨h.os, h.tape, h.output, h.size, fun k hk hn => h.block k hk (by simpa [Value.ownBlock] using hn)⟩
theorem add_zero (b j : Nat) : (⟨b, 0, none⟩ : Addr).add j = ⟨b, j, none⟩ := by unfold Addr.add; split <;> simp_all
theorem owns_empty {T : TypeId} (w : World) : (w.alloc (.cells #[] T)).ownsRow 0 T k (.slice (some ⟨w.heap.size, 0, none⟩) 0 0) 0 [] :=
  ⟨by simp, .inr ⟨w.heap.size, 0, #[], rfl, Nat.zero_le _, heap_alloc_new _ _, Nat.le_refl _, by unfold maxLen; omega, by simp, by simp⟩⟩

end
end Go.Proofs.YtacbahmmmndmbaaGreatDoor
