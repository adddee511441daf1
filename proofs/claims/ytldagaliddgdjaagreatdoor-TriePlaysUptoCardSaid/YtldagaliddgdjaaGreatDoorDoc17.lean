/- The document's answers about names and filters (crierref17, crierref18): what the program's are. -/
import Derived.Test.YtldagaliddgdjaaGreatDoorDocUtf
import Derived.Test.YtldagaliddgdjaaGreatDoorMatch
import Derived.Test.YtldagaliddgdjaaGreatDoorMrg3
namespace Go.Proofs.YtldagaliddgdjaaGreatDoor
open Go.RowKit Go.Lib Go.Shelf

/-! ### plain -/
theorem okRunes_eq (s : ByteArray) : ∀ (f i : Nat), okRunes s f i = (validGoD f (s.data.toList.drop i) && !(hasRune isNul s f i))
  | 0, i => rfl
  | f + 1, i => by
    unfold okRunes validGoD hasRune
    by_cases hi : i < s.size
    · have hne : s.data.toList.drop i ≠ [] := fun e => by
        have := congrArg List.length e
        have h2 : i < s.data.size := hi
        simp at this
        omega
      rw [if_pos hi, if_pos hi, if_neg hne, decodeL_drop]
      have hw : 1 ≤ (Utf8.decode s i).2 := by
        have := decodeL_width (s.data.toList.drop i)
        rwa [decodeL_drop] at this
      by_cases hb : (Utf8.decode s i).1 = 65533 ∧ (Utf8.decode s i).2 = 1
      · rw [dStep_eq s i hi, if_pos hb, if_pos hb]
        simp
      · rw [dStep_fst s i hi hb, if_neg hb, okRunes_eq s f, List.drop_drop]
        simp only
        by_cases hz : (Utf8.decode s i).1 = 0
        · simp [hz, isNul]
        · have : isNul (Utf8.decode s i).1 = false := by simp [isNul, hz]
          rw [if_neg (by omega), this, Bool.false_or]
    · have he : s.data.toList.drop i = [] := by
        have h2 : ¬ i < s.data.size := hi
        exact List.drop_eq_nil_of_le (by simp; omega)
      rw [if_neg hi, if_neg hi, if_pos he]
      rfl
theorem docRight_eq (s : ByteArray) : docRight s = utfRight s := by
  unfold docRight utfRight
  rw [okRunes_eq, List.drop_zero]
  have : validGoD s.size s.data.toList = validD s.data.toList := by
    unfold validD
    congr 1
  rw [this, Bool.not_or, Bool.not_not, Bool.and_assoc]
theorem ext_list (s : ByteArray) (a b : Nat) : (s.extract a b).toList = (s.toList.drop a).take (b - a) := by
  rw [Lib.toList_data, Lib.toList_data, ByteArray.data_extract, Array.toList_extract]
/-- The levels from a place on. -/
def levF (s : ByteArray) (a : Nat) : List ByteArray := (cutL (s.toList.drop a)).map mkB
theorem levF_zero (s : ByteArray) : levF s 0 = levels s := by unfold levF levels; rw [List.drop_zero]
theorem noCutF {s : ByteArray} {a i : Nat} (h : ∀ j, a ≤ j → j < i → s.get! j ≠ 47) (hi : i ≤ s.size) : ∀ c ∈ (s.toList.drop a).take (i - a), c ≠ 47 := by
  intro c hc
  obtain ⟨j, hj, rfl⟩ := List.getElem_of_mem hc
  have hj2 : j < i - a := by have := List.length_take_le (i - a) (s.toList.drop a); omega
  have e := get_toList s (a + j) (by omega)
  rw [List.getElem_take, List.getElem_drop]
  rw [List.getElem?_eq_getElem (by rw [size_toList]; omega)] at e
  rw [Option.some.inj e]
  exact h _ (by omega) (by omega)
theorem levF_cut {s : ByteArray} {a i : Nat} (h : ∀ j, a ≤ j → j < i → s.get! j ≠ 47) (ha : a ≤ i) (hi : i < s.size) (hc : s.get! i = 47) : levF s a = s.extract a i :: levF s (i + 1) := by
  have e : s.toList.drop a = (s.toList.drop a).take (i - a) ++ 47 :: s.toList.drop (i + 1) := by
    conv => lhs; rw [← List.take_append_drop (i - a) (s.toList.drop a)]
    congr 1
    rw [List.drop_drop, show a + (i - a) = i by omega]
    rw [List.drop_eq_getElem_cons (by rw [size_toList]; exact hi)]
    have h2 := get_toList s i hi
    rw [List.getElem?_eq_getElem (by rw [size_toList]; exact hi), hc] at h2
    rw [Option.some.inj h2]
  unfold levF
  rw [e, cutL_cut _ (noCutF h (by omega)), List.map_cons, ← ext_list, mkB_back]
theorem levF_one {s : ByteArray} {a : Nat} (h : ∀ j, a ≤ j → j < s.size → s.get! j ≠ 47) : levF s a = [s.extract a s.size] := by
  unfold levF
  have h1 := noCutF h (Nat.le_refl _)
  rw [← size_toList, List.take_of_length_le (by rw [List.length_drop]; omega)] at h1
  rw [cutL_one h1, List.map_cons, List.map_nil, ← mkB_back (s.extract a s.size), ext_list, List.take_of_length_le (by rw [List.length_drop, size_toList]; omega)]
theorem cutL_count : ∀ l : List UInt8, (cutL l).length = l.count 47 + 1
  | [] => rfl
  | c :: r => by
    have ih := cutL_count r
    rw [cutL_cons]
    by_cases h : c = 47
    · subst h
      rw [if_pos rfl, List.length_cons, ih, List.count_cons_self]
    · rw [if_neg h, List.count_cons_of_ne h]
      cases hr : cutL r with
      | nil => exact absurd hr (cutL_ne r)
      | cons y t => rw [hr] at ih; simpa using ih
theorem levels_count (s : ByteArray) : (levels s).length = countByte s.data.toList 47 + 1 := by
  unfold levels countByte
  rw [List.length_map, cutL_count, Lib.toList_data]
end Go.Proofs.YtldagaliddgdjaaGreatDoor
