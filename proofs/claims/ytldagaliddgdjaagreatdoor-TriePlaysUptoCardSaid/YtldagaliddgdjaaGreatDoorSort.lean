/- slices.SortFunc over a row of structs, in plain terms. -/
import Derived.Test.YtldagaliddgdjaaGreatDoorMrg2
import Derived.Shelf.SlSortCmp.WholeK
namespace Go.Proofs.YtldagaliddgdjaaGreatDoor
open Go.RowKit Go.Sort Go.Lib Go.Shelf

section
variable {α : Type} {enc : α → List Value} {k : Nat}
theorem flatK_row [Inhabited α] (hk : ∀ x, (enc x).length = k) (l : List α) (t : Nat) (h : t < l.length * k) : (rowOf enc l)[t]? = some ((flatK enc k l.toArray)[t]!) := by
  have hk0 : 0 < k := by
    rcases Nat.eq_zero_or_pos k with rfl | h0
    · simp at h
    · exact h0
  have hi : t / k < l.length := Nat.div_lt_of_lt_mul (by rwa [Nat.mul_comm])
  have hc : t % k < k := Nat.mod_lt _ hk0
  rw [get_flatK _ _ _ _ (by simpa using h)]
  have e := rowOf_get hk l (t / k) (t % k) l[t / k] (List.getElem?_eq_getElem hi) hc
  rw [Nat.div_add_mod' t k] at e
  rw [e]
  have e2 : l.toArray[t / k]! = l[t / k] := by simp [hi]
  rw [e2]
  have hl : t % k < (enc l[t / k]).length := by rw [hk]; exact hc
  simp [hl]

variable [Inhabited α]
theorem Row.holds {T : TypeId} {w : World} {g cap : Nat} {l : List α} (h : Row T enc k w g cap l) (hk : ∀ x, (enc x).length = k) : HoldsK enc k w g 0 l.toArray := by
  intro j hj
  simp only [size_flatK, List.size_toArray] at hj
  refine ⟨?_, h.frozen _⟩
  have := h.flat (flatK_row hk l j hj) hj
  simpa using this
/-- The world behind the sort. -/
theorem Row.sorted {T : TypeId} {w : World} {g cap : Nat} {l : List α} (h : Row T enc k w g cap l) (hk : ∀ x, (enc x).length = k) {d' : Array α} (hd : d'.size = l.length) (n : Nat) (os : Array Obj) :
    Row T enc k (sortWorldK enc k w g 0 n d' os) g cap d'.toList ∧ Own [g] w (sortWorldK enc k w g 0 n d' os) := by
  have hlt := h.lt
  obtain ⟨cur, hb, h1, h2, h3, h4⟩ := h
  have hheap : (putRowK enc k (Sort.ahead w n) g 0 d').heap = w.heap.modify g (onCells (putCells id 0 (flatK enc k d'))) := rfl
  have hsz : (putRowK enc k (Sort.ahead w n) g 0 d').heap.size = w.heap.size := by rw [hheap]; simp
  unfold sortWorldK
  refine ⟨⟨putCells id 0 (flatK enc k d') cur, ?_, by simpa [hd] using h1, h2, by simp [putCells, h3], ?_⟩, rfl, rfl, rfl, by simp [hsz], ?_⟩
  · rw [heap_grow_old _ _ (by rw [hsz]; exact hlt), hheap, Array.getElem?_modify, if_pos rfl, hb]
    rfl
  · have hcap : l.length * k ≤ cap * k := Nat.mul_le_mul_right _ h1
    apply List.ext_getElem?
    intro t
    by_cases ht : t < l.length * k
    · have ht2 : t < d'.toList.length * k := by simpa [hd] using ht
      have e := flatK_row hk d'.toList t ht2
      rw [List.getElem?_take_of_lt ht2, e]
      simp only [putCells, Array.toList_mapIdx, List.getElem?_mapIdx, Array.getElem?_toList]
      have htc : t < cur.size := by rw [h3]; omega
      rw [Array.getElem?_eq_getElem htc]
      simp only [Option.map_some, size_flatK, Nat.zero_add, Nat.zero_le, true_and, Nat.sub_zero, id]
      rw [if_pos (by rw [hd]; exact ht)]
    · rw [List.getElem?_eq_none (by simp [hd]; omega), List.getElem?_eq_none (by rw [rowOf_len hk]; simp [hd]; omega)]
  · intro j hj hn
    have hjg : g ≠ j := by simpa using Ne.symm (by simpa using hn)
    rw [heap_grow_old _ _ (by rw [hsz]; exact hj), hheap, Array.getElem?_modify, if_neg hjg]

variable {P : Program} {ρ : Ren}
theorem sort_row (L : SlLaysF0.n6 P ρ) (aE : ∀ w, (isAgg (ρ.t 24)).run P w = .ok true w) (zE : ∀ w, (Go.sizeOf (ρ.t 24)).run P w = .ok k w) (hk : ∀ x, (enc x).length = k) (h1 : ∀ x, ∀ v ∈ enc x, v.oneCell' = true) (cf : α → α → Int) (hO : SWO (ltOf cf))
    (f : Nat) (eg : ∀ args w, (callFunc f args).run P w = .ok (.enter f args) w) (hcmp : ∀ (x y : α) (W : World), Calls P f #[.agg (enc x).toArray, .agg (enc y).toArray] W fun e w' => e = .returned (.int .i64 (cf x y)) ∧ ∃ q os', w' = grow (W.drewN q) os')
    {T : TypeId} {w : World} {g cap : Nat} {l : List α} (h : Row T enc k w g cap l) (hl : l.length < 4611686018427387904) :
    Calls P (ρ.f 6) #[.slice (some ⟨g, 0, none⟩) l.length cap, .func (.func f) #[] #[]] w fun e w' =>
      e = .returned (.tuple #[]) ∧ ∃ l', l'.Perm l ∧ l'.Pairwise (fun x y => ltOf cf y x = false) ∧ Row T enc k w' g cap l' ∧ Own [g] w w' := by
  have := AnyQ.slices_SortFunc L k aE zE enc hk h1 cf hO f #[] g 0 cap l.toArray w eg (fun m os dk _ x y => hcmp x y _) (h.holds hk) h.lt (by simpa using hl)
  simp only [List.size_toArray] at this
  refine this.mono ?_
  rintro e w' ⟨rfl, d', n, os, ⟨hp1, _, hp2⟩, hs, rfl⟩
  have hd : d'.size = l.length := by simpa using hp1
  have hrow := h.sorted hk hd n os
  refine ⟨rfl, d'.toList, ?_, ?_, hrow.1, hrow.2⟩
  · have e1 : d'.extract 0 l.length = d' := by rw [← hd]; simp
    rw [e1] at hp2
    simpa using hp2
  · rw [List.pairwise_iff_getElem]
    intro i j hi hj hij
    have hi' : i < d'.size := by simpa using hi
    have hj' : j < d'.size := by simpa using hj
    have := hs i j (Nat.zero_le _) hij (by omega)
    rw [getElem!_pos d' j hj', getElem!_pos d' i hi'] at this
    simpa using this
end
end Go.Proofs.YtldagaliddgdjaaGreatDoor
