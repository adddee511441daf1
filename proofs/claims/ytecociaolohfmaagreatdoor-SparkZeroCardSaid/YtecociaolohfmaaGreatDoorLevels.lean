/- A text's levels, and what a filter wants: plain. No program in sight. -/
import Derived.Test.YtecociaolohfmaaGreatDoorOrd
import Derived.Laws.RangeAny
import Derived.Lib.DecodeN
import Derived.Lib.MapLaws
import Derived.Lib.PathFns
namespace Go.Proofs.YtecociaolohfmaaGreatDoor
open Go.RowKit

def mkB (l : List UInt8) : ByteArray := ⟨l.toArray⟩
theorem mkB_toList (l : List UInt8) : (mkB l).toList = l := by unfold mkB; rw [Lib.toList_data]
theorem mkB_back (x : ByteArray) : mkB x.toList = x := by unfold mkB; rw [Lib.toList_data]
theorem mkB_inj {a b : List UInt8} (h : mkB a = mkB b) : a = b := by rw [← mkB_toList a, ← mkB_toList b, h]

/-- A list of bytes, cut at each '/'. -/
def cutL : List UInt8 → List (List UInt8)
  | [] => [[]]
  | c :: r => if c = 47 then [] :: cutL r else match cutL r with | x :: t => (c :: x) :: t | [] => [[c]]
theorem cutL_nil : cutL [] = [[]] := rfl
theorem cutL_cons (c : UInt8) (r : List UInt8) : cutL (c :: r) = if c = 47 then [] :: cutL r else match cutL r with | x :: t => (c :: x) :: t | [] => [[c]] := rfl
theorem cutL_ne : ∀ l, cutL l ≠ []
  | [] => by simp [cutL]
  | c :: r => by
    unfold cutL
    split
    · simp
    · split <;> simp
theorem cutL_one : ∀ {a : List UInt8}, (∀ c ∈ a, c ≠ 47) → cutL a = [a]
  | [], _ => rfl
  | c :: r, h => by
    unfold cutL
    rw [if_neg (h c (List.mem_cons_self ..)), cutL_one (fun x hx => h x (List.mem_cons_of_mem _ hx))]
theorem cutL_cut : ∀ {a : List UInt8} (b : List UInt8), (∀ c ∈ a, c ≠ 47) → cutL (a ++ 47 :: b) = a :: cutL b
  | [], b, _ => by simp [cutL]
  | c :: r, b, h => by
    rw [List.cons_append, cutL_cons]
    rw [if_neg (h c (List.mem_cons_self ..)), cutL_cut b (fun x hx => h x (List.mem_cons_of_mem _ hx))]
theorem cutL_no : ∀ (l : List UInt8), ∀ x ∈ cutL l, ∀ c ∈ x, c ≠ 47
  | [], x, hx, c, hc => by simp [cutL] at hx; subst hx; cases hc
  | d :: r, x, hx, c, hc => by
    have ih := cutL_no r
    unfold cutL at hx
    split at hx
    · rcases List.mem_cons.1 hx with rfl | h
      · cases hc
      · exact ih x h c hc
    · rename_i hd
      split at hx
      · rename_i y t he
        rcases List.mem_cons.1 hx with rfl | h
        · rcases List.mem_cons.1 hc with rfl | h2
          · exact hd
          · exact ih y (by rw [he]; exact List.mem_cons_self ..) c h2
        · exact ih x (by rw [he]; exact List.mem_cons_of_mem _ h) c hc
      · simp at hx
        subst hx
        simp at hc
        subst hc
        exact hd
/-- A text's levels. -/
def levels (s : ByteArray) : List ByteArray := (cutL s.toList).map mkB
theorem levels_ne (s : ByteArray) : levels s ≠ [] := by simp [levels, cutL_ne]

theorem ext_to (s : ByteArray) (i : Nat) : (s.extract 0 i).toList = s.toList.take i := by
  rw [Lib.Pa.extract_upto, Lib.toList_data, Lib.toList_data]
theorem ext_from (s : ByteArray) (i : Nat) : (s.extract i s.size).toList = s.toList.drop i := by
  rw [Lib.Pa.extract_from, Lib.toList_data, Lib.toList_data]
theorem size_toList (s : ByteArray) : s.toList.length = s.size := by rw [Lib.toList_data]; rfl
theorem get_toList (s : ByteArray) (i : Nat) (h : i < s.size) : s.toList[i]? = some (s.get! i) := by
  rw [Lib.toList_data]
  have h2 : i < s.data.size := h
  show s.data.toList[i]? = some s.data[i]!
  rw [Array.getElem?_toList]
  rw [getElem!_pos s.data i h2, Array.getElem?_eq_getElem h2]
/-- No '/' at the places from a on, ahead of b. -/
def NoCut (s : ByteArray) (b : Nat) : Prop := ∀ j, j < b → j < s.size → s.get! j ≠ 47
theorem noCut_take {s : ByteArray} {i : Nat} (h : NoCut s i) : ∀ c ∈ s.toList.take i, c ≠ 47 := by
  intro c hc
  obtain ⟨j, hj, rfl⟩ := List.getElem_of_mem hc
  have hl := List.length_take_le i s.toList
  have hj1 : j < i := by simp at hj; omega
  have hj2 : j < s.size := by simp [size_toList] at hj; omega
  have := h j hj1 hj2
  have e := get_toList s j hj2
  rw [List.getElem_take]
  intro e2
  rw [List.getElem?_eq_getElem (by rw [size_toList]; exact hj2)] at e
  rw [Option.some.inj e] at e2
  exact this e2
theorem levels_cut {s : ByteArray} {i : Nat} (h : NoCut s i) (hi : i < s.size) (hc : s.get! i = 47) : levels s = s.extract 0 i :: levels (s.extract (i + 1) s.size) := by
  unfold levels
  have e : s.toList = s.toList.take i ++ 47 :: s.toList.drop (i + 1) := by
    have h1 := List.take_append_drop i s.toList
    rw [List.drop_eq_getElem_cons (by rw [size_toList]; exact hi)] at h1
    have h2 := get_toList s i hi
    rw [List.getElem?_eq_getElem (by rw [size_toList]; exact hi), hc] at h2
    rw [Option.some.inj h2] at h1
    exact h1.symm
  rw [e, cutL_cut _ (noCut_take h), List.map_cons, ext_from]
  congr 1
  rw [← ext_to, mkB_back]
theorem levels_one {s : ByteArray} (h : NoCut s s.size) : levels s = [s] := by
  unfold levels
  have := noCut_take h
  rw [List.take_of_length_le (by rw [size_toList]; omega)] at this
  rw [cutL_one this, List.map_cons, mkB_back]
  rfl
/-- A rune is '/' just where the byte is; the other bytes of a rune are none. -/
theorem dec_cut {s : ByteArray} {i : Nat} (hi : i < s.size) : 1 ≤ (Utf8.decode s i).2 ∧ i + (Utf8.decode s i).2 ≤ s.size ∧
    (((Utf8.decode s i).1 = 47 ∧ s.get! i = 47) ∨ ((Utf8.decode s i).1 ≠ 47 ∧ ∀ j, i ≤ j → j < i + (Utf8.decode s i).2 → s.get! j ≠ 47)) := by
  have hsh := Lib.decodeN_shape (s.size - i) (s.get! i).toNat (s.get! (i + 1)).toNat (s.get! (i + 2)).toNat (s.get! (i + 3)).toNat
  rw [← Lib.decode_at] at hsh
  have hn : ∀ k, (s.get! k).toNat ≠ 47 → s.get! k ≠ 47 := fun k h e => h (by rw [e]; rfl)
  by_cases hb : (s.get! i).toNat < 128
  · have e : Utf8.decode s i = ((s.get! i).toNat, 1) := by
      have h1 := decode_ascii s i hi (by
        have : s[i] = s.get! i := by simp [ByteArray.get!, getElem!_pos, hi]; rfl
        rw [this]; exact hb)
      rw [h1]
      have : s[i] = s.get! i := by simp [ByteArray.get!, getElem!_pos, hi]; rfl
      rw [this]
    rw [e]
    refine ⟨Nat.le_refl _, hi, ?_⟩
    by_cases h47 : (s.get! i).toNat = 47
    · exact .inl ⟨h47, UInt8.toNat_inj.1 h47⟩
    · refine .inr ⟨h47, fun j h1 h2 => ?_⟩
      obtain rfl : j = i := by simp at h2; omega
      exact hn _ h47
  · rcases hsh with ⟨h, _⟩ | ⟨h0, h1, h2, h3, h4⟩ | ⟨h0, h1, h2, h3, h4, _, h5⟩ | ⟨h0, h1, h2, h3, h4, h5, _, h6⟩ | h
    · omega
    · rw [h4]
      refine ⟨by simp, by simp; omega, .inr ⟨by simp; omega, fun j a b => ?_⟩⟩
      have : j = i ∨ j = i + 1 := by simp at b; omega
      rcases this with rfl | rfl <;> exact hn _ (by omega)
    · rw [h5]
      refine ⟨by simp, by simp; omega, .inr ⟨by simp; omega, fun j a b => ?_⟩⟩
      have : j = i ∨ j = i + 1 ∨ j = i + 2 := by simp at b; omega
      rcases this with rfl | rfl | rfl <;> exact hn _ (by omega)
    · rw [h6]
      refine ⟨by simp, by simp; omega, .inr ⟨by simp; omega, fun j a b => ?_⟩⟩
      have : j = i ∨ j = i + 1 ∨ j = i + 2 ∨ j = i + 3 := by simp at b; omega
      rcases this with rfl | rfl | rfl | rfl <;> exact hn _ (by omega)
    · rw [h]
      refine ⟨Nat.le_refl _, by simp; omega, .inr ⟨by simp, fun j a b => ?_⟩⟩
      obtain rfl : j = i := by simp at b; omega
      exact hn _ (by omega)
theorem NoCut.step {s : ByteArray} {i n : Nat} (h : NoCut s i) (hn : ∀ j, i ≤ j → j < i + n → s.get! j ≠ 47) : NoCut s (i + n) := by
  intro j h1 h2
  by_cases hj : j < i
  · exact h j hj h2
  · exact hn j (by omega) h1

/-! ### what a filter wants -/
def plusB : ByteArray := ⟨#[43]⟩
def hashB : ByteArray := ⟨#[35]⟩
/-- Level by level. -/
def wants : List ByteArray → List ByteArray → Bool
  | [], n => n.isEmpty
  | x :: f, n => if x == hashB then true else match n with | [] => false | y :: m => (x == plusB || x == y) && wants f m
end Go.Proofs.YtecociaolohfmaaGreatDoor
