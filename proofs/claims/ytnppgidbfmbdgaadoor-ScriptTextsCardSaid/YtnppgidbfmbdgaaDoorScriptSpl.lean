/- Texts cut at a byte: plain lists; the library's strings.Split in these words. -/
import Derived.Test.YtnppgidbfmbdgaaDoorScriptNum
import Derived.Lib.Split
import Derived.Lib.SplitLaws
namespace Go.Proofs.YtnppgidbfmbdgaaDoor
open Go.RowKit

/-- What stands between bytes c. -/
def spl (c : UInt8) : List UInt8 → List (List UInt8)
  | [] => [[]]
  | x :: r => if x = c then [] :: spl c r else match spl c r with
    | [] => [[x]]
    | h :: t => (x :: h) :: t
theorem spl_ne (c : UInt8) (l : List UInt8) : spl c l ≠ [] := by
  cases l with
  | nil => simp [spl]
  | cons x r =>
    unfold spl
    split
    · simp
    · split <;> simp
theorem spl_no {c : UInt8} : ∀ {l : List UInt8}, c ∉ l → spl c l = [l]
  | [], _ => rfl
  | x :: r, h => by
    simp only [List.mem_cons, not_or] at h
    unfold spl
    rw [if_neg (fun e => h.1 e.symm), spl_no h.2]
theorem spl_cut {c : UInt8} : ∀ {l : List UInt8} (r : List UInt8), c ∉ l → spl c (l ++ c :: r) = l :: spl c r
  | [], r, _ => by
    rw [List.nil_append]
    conv => lhs; unfold spl
    rw [if_pos rfl]
  | x :: l, r, h => by
    simp only [List.mem_cons, not_or] at h
    rw [List.cons_append]
    conv => lhs; unfold spl
    rw [if_neg (fun e => h.1 e.symm), spl_cut r h.2]
theorem spl_mem {c : UInt8} : ∀ {l : List UInt8} {w : List UInt8}, w ∈ spl c l → c ∉ w
  | [], w, h => by simp [spl] at h; subst h; simp
  | x :: r, w, h => by
    unfold spl at h
    split at h
    · rcases List.mem_cons.1 h with rfl | h
      · simp
      · exact spl_mem h
    · rename_i hx
      split at h
      · rename_i he
        exact absurd he (spl_ne c r)
      · rename_i hd t he
        rcases List.mem_cons.1 h with rfl | h
        · have := spl_mem (c := c) (l := r) (w := hd) (by rw [he]; simp)
          simp only [List.mem_cons, not_or]
          exact ⟨fun e => hx e.symm, this⟩
        · exact spl_mem (c := c) (l := r) (by rw [he]; simp [h])
theorem spl_len (c : UInt8) : ∀ (l : List UInt8), (spl c l).length ≤ l.length + 1
  | [] => by simp [spl]
  | x :: r => by
    have := spl_len c r
    unfold spl
    split
    · simp; omega
    · split
      · simp
      · rename_i h; rw [h] at this; simp at this ⊢; omega
/-- The parts, joined again. -/
def joinL (c : UInt8) : List (List UInt8) → List UInt8
  | [] => []
  | [l] => l
  | l :: r => l ++ c :: joinL c r
theorem joinL_spl (c : UInt8) : ∀ (l : List UInt8), joinL c (spl c l) = l
  | [] => rfl
  | x :: r => by
    have ih := joinL_spl c r
    unfold spl
    split
    · rename_i h
      subst h
      cases hs : spl x r with
      | nil => exact absurd hs (spl_ne _ _)
      | cons a b => rw [hs] at ih; simp only [joinL, List.nil_append]; rw [ih]
    · cases hs : spl c r with
      | nil => exact absurd hs (spl_ne _ _)
      | cons a b =>
        rw [hs] at ih
        cases b with
        | nil => simp only [joinL] at ih ⊢; rw [ih]
        | cons d e => simp only [joinL, List.cons_append] at ih ⊢; rw [ih]
def splB (c : UInt8) (s : ByteArray) : List ByteArray := (spl c s.data.toList).map fun l => ⟨l.toArray⟩
theorem splB_no {c : UInt8} {s : ByteArray} (h : c ∉ s.data.toList) : splB c s = [s] := by unfold splB; rw [spl_no h]; rfl
theorem bytes_of (s : ByteArray) : (⟨s.data.toList.toArray⟩ : ByteArray) = s := rfl
theorem splB_cut {c : UInt8} {s : ByteArray} {i : Nat} (hi : i < s.size) (hc : s.get! i = c) (h : c ∉ s.data.toList.take i) : splB c s = s.extract 0 i :: splB c (s.extract (i + 1) s.size) := by
  have hl : i < s.data.toList.length := by rw [← Lib.size_eq]; exact hi
  have e : s.data.toList = s.data.toList.take i ++ c :: s.data.toList.drop (i + 1) := by
    conv => lhs; rw [← List.take_append_drop i s.data.toList, List.drop_eq_getElem_cons hl]
    congr 2
    rw [← hc, get_at s i hi]; rfl
  unfold splB
  rw [Lib.extract_to_end]
  conv => lhs; rw [e, spl_cut _ h]
  rw [List.map_cons]
  congr 1
  apply ByteArray.ext
  apply Array.ext'
  exact (Lib.extract_from_zero s i).symm
theorem indexByte_no {c : UInt8} : ∀ {l : List UInt8}, Lib.indexByte l c = -1 → c ∉ l
  | [], _ => by simp
  | b :: l, h => by
    have hge := Lib.indexByte_ge l c
    unfold Lib.indexByte at h
    split at h
    · omega
    · rename_i hb
      split at h
      · rename_i h1
        simp only [List.mem_cons, not_or]
        exact ⟨fun e => hb (by rw [e]; simp), indexByte_no (by simpa using h1)⟩
      · omega
theorem indexByte_at {c : UInt8} : ∀ {l : List UInt8} {i : Nat}, Lib.indexByte l c = i → l[i]? = some c ∧ c ∉ l.take i
  | [], i, h => by simp only [Lib.indexByte] at h; omega
  | b :: l, i, h => by
    have hge := Lib.indexByte_ge l c
    unfold Lib.indexByte at h
    split at h
    · rename_i hb
      obtain rfl : i = 0 := by omega
      have : b = c := by simpa using hb
      subst this
      simp
    · rename_i hb
      split at h
      · omega
      · rename_i h1
        obtain ⟨j, rfl⟩ : ∃ j, i = j + 1 := ⟨i - 1, by simp at h1; omega⟩
        have := indexByte_at (c := c) (l := l) (i := j) (by omega)
        refine ⟨by simpa using this.1, ?_⟩
        simp only [List.take_succ_cons, List.mem_cons, not_or]
        exact ⟨fun e => hb (by rw [e]; simp), this.2⟩
theorem splitB_eq (c : UInt8) : ∀ (n : Nat) (s : ByteArray), s.size ≤ n → Lib.splitB ⟨#[c]⟩ 0 (Lib.countB s ⟨#[c]⟩) s = splB c s
  | n, s, hn => by
    have hx : Lib.indexB s ⟨#[c]⟩ = Lib.indexByte s.data.toList c := Lib.index_one _ _
    rcases Lib.indexB_cases s ⟨#[c]⟩ with h | ⟨i, h, hi⟩
    · rw [Lib.countB_miss _ _ h, Lib.splitB_zero, splB_no (indexByte_no (by rw [← hx, h]))]
    · have h1 : (⟨#[c]⟩ : ByteArray).size = 1 := rfl
      rw [h1] at hi
      obtain ⟨g1, g2⟩ := indexByte_at (l := s.data.toList) (i := i) (by rw [← hx, h])
      have hi2 : i < s.size := by omega
      rw [Lib.countB_hit s _ i (by rw [h1]; omega) h, Nat.add_comm, Lib.splitB_hit _ _ _ _ i h, h1]
      have hc : s.get! i = c := by
        rw [get_at s i hi2]
        have : s.data.toList[i]? = some s[i] := by rw [List.getElem?_eq_getElem (by rw [← Lib.size_eq]; exact hi2)]; rfl
        rw [this] at g1
        exact Option.some.inj g1
      match n with
      | 0 => omega
      | n + 1 =>
        rw [splitB_eq c n (s.extract (i + 1) s.size) (by rw [Lib.size_eq, Lib.extract_to_end, List.length_drop, ← Lib.size_eq]; omega), splB_cut hi2 hc g2]
        rfl
theorem splB_len (c : UInt8) (s : ByteArray) : (splB c s).length ≤ s.size + 1 := by
  have := spl_len c s.data.toList
  rw [Lib.size_eq]
  unfold splB
  simpa using this
theorem countB_spl (c : UInt8) (s : ByteArray) : Lib.countB s ⟨#[c]⟩ + 1 = (splB c s).length := by
  have key : ∀ (n : Nat) (s : ByteArray), s.size ≤ n → Lib.countB s ⟨#[c]⟩ + 1 = (splB c s).length := by
    intro n
    induction n with
    | zero =>
      intro s hs
      have : c ∉ s.data.toList := by
        have : s.data.toList = [] := List.eq_nil_of_length_eq_zero (by rw [← Lib.size_eq]; omega)
        rw [this]; simp
      rw [splB_no this]
      rcases Lib.indexB_cases s ⟨#[c]⟩ with h | ⟨i, h, hi⟩
      · rw [Lib.countB_miss _ _ h]; rfl
      · have h1 : (⟨#[c]⟩ : ByteArray).size = 1 := rfl
        omega
    | succ n ih =>
      intro s hs
      have hx : Lib.indexB s ⟨#[c]⟩ = Lib.indexByte s.data.toList c := Lib.index_one _ _
      rcases Lib.indexB_cases s ⟨#[c]⟩ with h | ⟨i, h, hi⟩
      · rw [Lib.countB_miss _ _ h, splB_no (indexByte_no (by rw [← hx, h]))]; rfl
      · have h1 : (⟨#[c]⟩ : ByteArray).size = 1 := rfl
        rw [h1] at hi
        obtain ⟨g1, g2⟩ := indexByte_at (l := s.data.toList) (i := i) (by rw [← hx, h])
        have hi2 : i < s.size := by omega
        have hc : s.get! i = c := by
          rw [get_at s i hi2]
          have : s.data.toList[i]? = some s[i] := by rw [List.getElem?_eq_getElem (by rw [← Lib.size_eq]; exact hi2)]; rfl
          rw [this] at g1
          exact Option.some.inj g1
        rw [Lib.countB_hit s _ i (by rw [h1]; omega) h, splB_cut hi2 hc g2, h1, List.length_cons, ← ih (s.extract (i + 1) s.size) (by rw [Lib.size_eq, Lib.extract_to_end, List.length_drop, ← Lib.size_eq]; omega)]
        omega
  exact key s.size s (Nat.le_refl _)
end Go.Proofs.YtnppgidbfmbdgaaDoor
