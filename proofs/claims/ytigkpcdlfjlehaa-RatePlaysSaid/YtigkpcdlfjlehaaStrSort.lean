/- slices.Sort over strings, in plain terms. -/
import Derived.Test.YtigkpcdlfjlehaaNew
import Derived.Test.YtigkpcdlfjlehaaOrd
import Derived.Test.YtigkpcdlfjlehaaShelf
import Derived.Shelf.Sort.Plain
import Derived.Shelf.Slices.In.SortNone
namespace Go.Proofs.Ytigkpcdlfjlehaa
open Go.RowKit Go.Sort Go.Lib Go.Shelf

def sEnc (x : ByteArray) : List Value := [.string x]
theorem sEnc_len (x : ByteArray) : (sEnc x).length = 1 := rfl
theorem strInfo : (Try.prog.info? 9).map (fun i => (i.zero, i.size, i.bytes)) = some (some (.string ⟨#[]⟩), 1, 16) := by kernel_rfl
theorem strElem : Elem Try.prog 36 9 sEnc 1 16 where
  ut := Try.underlying36
  info := by obtain ⟨i, h1, h2, h3, h4⟩ := info_parts strInfo; exact ⟨i, _, h1, h2, h3, h4, rfl⟩
  pos := by omega
  len := sEnc_len
  one x u hu := by simp [sEnc] at hu; subst hu; rfl
theorem rowOf_sEnc (l : List ByteArray) : rowOf sEnc l = l.map Value.string := by
  induction l with
  | nil => rfl
  | cons x r ih => simp only [rowOf, List.flatMap_cons, List.map_cons] at ih ⊢; rw [ih]; rfl
theorem back_toList (x : ByteArray) : (⟨x.toList.toArray⟩ : ByteArray) = x := by rw [Lib.toList_data]
theorem to_back (l : List UInt8) : (⟨l.toArray⟩ : ByteArray).toList = l := by rw [Lib.toList_data]
theorem Row.sortedS {T : TypeId} {w : World} {g cap : Nat} {l : List ByteArray} (h : Row T sEnc 1 w g cap l) {d : List (List UInt8)} (hd : d.length = l.length) (n : Nat) (os : Array Obj) :
    Row T sEnc 1 (grow (putRow encStr (Sort.ahead w n) g 0 d.toArray) os) g cap (d.map fun b => ⟨b.toArray⟩) ∧ Own [g] w (grow (putRow encStr (Sort.ahead w n) g 0 d.toArray) os) := by
  have hlt := h.lt
  obtain ⟨cur, hb, h1, h2, h3, h4⟩ := h
  have hheap : (putRow encStr (Sort.ahead w n) g 0 d.toArray).heap = w.heap.modify g (onCells (putCells encStr 0 d.toArray)) := rfl
  have hsz : (putRow encStr (Sort.ahead w n) g 0 d.toArray).heap.size = w.heap.size := by rw [hheap]; simp
  refine ⟨⟨putCells encStr 0 d.toArray cur, ?_, by simpa [hd] using h1, h2, by simp [putCells, h3], ?_⟩, rfl, rfl, rfl, by simp [hsz], ?_⟩
  · rw [heap_grow_old _ _ (by rw [hsz]; exact hlt), hheap, Array.getElem?_modify, if_pos rfl, hb]
    rfl
  · rw [rowOf_sEnc]
    apply List.ext_getElem?
    intro t
    by_cases ht : t < d.length
    · rw [List.getElem?_take_of_lt (by simpa using ht)]
      simp only [putCells, Array.toList_mapIdx, List.getElem?_mapIdx, Array.getElem?_toList]
      have htc : t < cur.size := by rw [h3]; omega
      rw [Array.getElem?_eq_getElem htc]
      simp only [Option.map_some, Nat.zero_add, Nat.zero_le, true_and, Nat.sub_zero]
      rw [if_pos (by simpa using ht)]
      simp [ht]
    · rw [List.getElem?_eq_none (by simp; omega), List.getElem?_eq_none (by simp; omega)]
  · intro j hj hn
    have hjg : g ≠ j := by simpa using Ne.symm (by simpa using hn)
    rw [heap_grow_old _ _ (by rw [hsz]; exact hj), hheap, Array.getElem?_modify, if_neg hjg]
theorem sort_strs {base : Nat} {w : World} {v : Value} {l : List ByteArray} (h : Sl 9 sEnc 1 base w v l) (hl : l.length < 4611686018427387904) :
    Calls Try.prog 24 #[v] w fun e w' => e = .returned (.tuple #[]) ∧ ∃ l', l'.Perm l ∧ l'.Pairwise (fun x y => sless y x = false) ∧ Sl 9 sEnc 1 base w' v l' ∧ Own v.ownBlock.toList w w' := by
  rcases h.form with ⟨rfl, rfl⟩ | ⟨g, cap, rfl, hg, hR⟩
  · refine (Any.slices_Sort_string_none Try.laysSort none 0 w).mono ?_
    rintro e w' ⟨he, rfl⟩
    exact ⟨he, [], List.Perm.refl _, List.Pairwise.nil, h, Own.refl _ _⟩
  · have hH : Holds encStr w g 0 (l.map (·.toList)).toArray := by
      intro j hj
      have hj' : j < l.length := by simpa using hj
      refine ⟨?_, hR.frozen _⟩
      have := hR.cell sEnc_len (i := j) (c := 0) (List.getElem?_eq_getElem hj') rfl
      simp only [Nat.mul_one, Nat.add_zero] at this
      rw [Nat.zero_add, this]
      have e : (l.map (·.toList)).toArray[j]! = l[j].toList := by simp [hj']
      rw [e]
      show _ = some (Value.string ⟨l[j].toList.toArray⟩)
      rw [back_toList]
    have S := Any.slices_Sort_string Try.laysSort g 0 cap (l.map (·.toList)) w hH hR.lt (by simpa using hl)
    simp only [List.length_map] at S
    refine S.mono ?_
    rintro e w' ⟨he, n, os, rfl⟩
    have hp : ((l.map (·.toList)).mergeSort fun x y => decide (x ≤ y)).Perm (l.map (·.toList)) := List.mergeSort_perm _ _
    have hs : ((l.map (·.toList)).mergeSort fun x y => decide (x ≤ y)).Pairwise fun x y => decide (x ≤ y) = true := List.pairwise_mergeSort (fun a b c h1 h2 => by
      simp only [decide_eq_true_eq] at *; exact List.le_trans h1 h2) (fun a b => by simpa using List.le_total a b) _
    generalize ((l.map (·.toList)).mergeSort fun x y => decide (x ≤ y)) = d at *
    have hlen : d.length = l.length := by simpa using hp.length_eq
    obtain ⟨h1, h2⟩ := hR.sortedS hlen n os
    refine ⟨he, d.map (fun b => ⟨b.toArray⟩), ?_, ?_, ?_, by simpa [Value.ownBlock] using h2⟩
    · have := hp.map (fun b : List UInt8 => (⟨b.toArray⟩ : ByteArray))
      rw [List.map_map] at this
      have e : (fun b : List UInt8 => (⟨b.toArray⟩ : ByteArray)) ∘ (fun x : ByteArray => x.toList) = id := by funext x; exact back_toList x
      rw [e, List.map_id] at this
      exact this
    · rw [List.pairwise_map]
      refine hs.imp ?_
      intro x y hxy
      cases hc : sless (⟨y.toArray⟩ : ByteArray) ⟨x.toArray⟩
      · rfl
      · have := (sless_iff _ _).1 hc
        rw [to_back, to_back] at this
        exact absurd this (List.not_lt.2 (by simpa using hxy))
    · have e : l.length = (d.map fun b : List UInt8 => (⟨b.toArray⟩ : ByteArray)).length := by simpa using hlen.symm
      rw [e]
      exact Sl.of_row h1 sEnc_len hg
end Go.Proofs.Ytigkpcdlfjlehaa
