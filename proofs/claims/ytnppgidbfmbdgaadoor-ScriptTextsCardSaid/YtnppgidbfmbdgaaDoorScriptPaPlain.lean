/- Scripts (chapter 40), plain: a text's lines; what they come to. -/
import Derived.Test.YtnppgidbfmbdgaaDoorScriptEvs
set_option linter.unusedSimpArgs false
namespace Go.Proofs.YtnppgidbfmbdgaaDoor
open Go.RowKit

theorem spl_cons (c x : UInt8) (r : List UInt8) : spl c (x :: r) = if x = c then [] :: spl c r else match spl c r with
    | [] => [[x]]
    | h :: t => (x :: h) :: t := rfl
theorem spl_snoc_c (c : UInt8) : ∀ l : List UInt8, spl c (l ++ [c]) = spl c l ++ [[]]
  | [] => by rw [List.nil_append, spl_cons, if_pos rfl]; rfl
  | x :: r => by
    rw [List.cons_append, spl_cons, spl_cons, spl_snoc_c c r]
    by_cases h : x = c
    · rw [if_pos h, if_pos h]; rfl
    · rw [if_neg h, if_neg h]
      cases hs : spl c r with
      | nil => exact absurd hs (spl_ne c r)
      | cons a b => rfl
theorem spl_snoc_x {c x : UInt8} (hx : x ≠ c) : ∀ l : List UInt8, ∃ a b, spl c (l ++ [x]) = a ++ [b ++ [x]]
  | [] => ⟨[], [], by rw [List.nil_append, spl_cons, if_neg hx]; rfl⟩
  | y :: r => by
    obtain ⟨a, b, h⟩ := spl_snoc_x hx r
    rw [List.cons_append, spl_cons, h]
    by_cases hy : y = c
    · rw [if_pos hy]; exact ⟨[] :: a, b, rfl⟩
    · rw [if_neg hy]
      cases a with
      | nil => exact ⟨[], y :: b, rfl⟩
      | cons a0 a1 => exact ⟨(y :: a0) :: a1, b, rfl⟩
theorem ends_with (l : List UInt8) : l = [] ∨ ∃ r x, l = r ++ [x] := by
  rcases List.eq_nil_or_concat l with h | ⟨r, x, h⟩
  · exact .inl h
  · exact .inr ⟨r, x, by simpa using h⟩
/-- A text's lines. -/
def rowsOf (s : ByteArray) : List ByteArray := if s.size = 0 then [] else splB 10 ⟨(Lib.trimSuffix s.data.toList [10]).toArray⟩
def lastEmpty (l : List ByteArray) : Bool := match l.getLast? with
  | some x => x.size == 0
  | none => false
theorem rows_eq (s : ByteArray) : rowsOf s = if lastEmpty (splB 10 s) then (splB 10 s).dropLast else splB 10 s := by
  unfold rowsOf
  rcases ends_with s.data.toList with h | ⟨r, x, h⟩
  · have hz : s.size = 0 := by rw [Lib.size_eq, h]; rfl
    have e : splB 10 s = [⟨#[]⟩] := by unfold splB; rw [h]; rfl
    rw [if_pos hz, e]
    rfl
  · have hz : ¬ s.size = 0 := by rw [Lib.size_eq, h]; simp
    rw [if_neg hz]
    by_cases hx : x = 10
    · subst hx
      have ht : Lib.trimSuffix s.data.toList [10] = r := by
        rw [h]
        unfold Lib.trimSuffix
        rw [if_pos (by unfold Lib.hasSuffix; simp)]
        simp
      have e : splB 10 s = splB 10 ⟨r.toArray⟩ ++ [⟨#[]⟩] := by
        unfold splB
        rw [h, spl_snoc_c, List.map_append]
        rfl
      rw [ht, e]
      rw [if_pos (by unfold lastEmpty; simp; rfl)]
      simp
    · have ht : Lib.trimSuffix s.data.toList [10] = s.data.toList := by
        rw [h]
        unfold Lib.trimSuffix
        rw [if_neg]
        unfold Lib.hasSuffix
        simp
        exact fun e => hx e.symm
      rw [ht, bytes_of]
      obtain ⟨a, b, he⟩ := spl_snoc_x hx r
      have e : splB 10 s = a.map (fun l => (⟨l.toArray⟩ : ByteArray)) ++ [⟨(b ++ [x]).toArray⟩] := by
        unfold splB
        rw [h, he, List.map_append]
        rfl
      rw [if_neg]
      rw [e]
      unfold lastEmpty
      simp [Lib.size_eq]
def scScan : List ByteArray → Nat → List Ev → List Ev × Int × Int
  | [], _, acc => (acc, 0, 0)
  | s :: r, i, acc => if (scParse s).2 ≠ 0 then ([], (i : Int), (scParse s).2) else scScan r (i + 1) (acc ++ [(scParse s).1])
/-- What a text comes to as events. -/
def scParseAll (s : ByteArray) : List Ev × Int × Int := if 32768 < s.size then ([], 0, 3) else if 512 < (rowsOf s).length then ([], 0, 6) else scScan (rowsOf s) 0 []
theorem scScan_at {L : List ByteArray} {i : Nat} {x : ByteArray} (h : L[i]? = some x) (acc : List Ev) : scScan (L.drop i) i acc = if (scParse x).2 ≠ 0 then ([], (i : Int), (scParse x).2) else scScan (L.drop (i + 1)) (i + 1) (acc ++ [(scParse x).1]) := by
  rw [drop_get h]; rfl
theorem rows_len (s : ByteArray) : (rowsOf s).length ≤ s.size + 1 := by
  rw [rows_eq]
  have := splB_len 10 s
  split
  · rw [List.length_dropLast]; omega
  · exact this
end Go.Proofs.YtnppgidbfmbdgaaDoor
