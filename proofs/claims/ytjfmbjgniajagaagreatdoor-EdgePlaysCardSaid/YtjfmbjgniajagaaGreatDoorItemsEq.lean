/- '==', '!=' on items. -/
import Derived.Test.YtjfmbjgniajagaaGreatDoorItemsMem
namespace Go.Proofs.YtjfmbjgniajagaaGreatDoor
open Go.RowKit

def itEq (x y : Itm) : Bool := (x.name == y.name) && (x.has == y.has) && (x.al == y.al) && (x.ty == y.ty) && (x.null == y.null) && (x.vk == y.vk) && (x.vn == y.vn) && (x.vs == y.vs)
theorem itEq_iff (x y : Itm) : itEq x y = true ↔ x = y := by
  obtain ⟨a, b, c, d, e, f, g, h⟩ := x
  obtain ⟨a', b', c', d', e', f', g', h'⟩ := y
  simp only [itEq, Bool.and_eq_true, beq_iff_eq, Itm.mk.injEq, and_assoc]
theorem itEq_refl (x : Itm) : itEq x x = true := (itEq_iff x x).2 rfl
theorem run_eql_itm (x y : Itm) (w : World) : (binOp .eql 83 x.val y.val).run Tryz.prog w = .ok (.bool (itEq x y)) w := by
  obtain ⟨a, b, c, d, e, f, g, h⟩ := x
  obtain ⟨a', b', c', d', e', f', g', h'⟩ := y
  unfold itEq Itm.val Itm.cells
  simp only [beq_toListBytes]
  rw [run_eql_struct]
  go_simp
  (repeat' split) <;> simp_all
theorem run_neq_itm (x y : Itm) (w : World) : (binOp .neq 83 x.val y.val).run Tryz.prog w = .ok (.bool (!itEq x y)) w := by
  have h := run_eql_itm x y w
  unfold Itm.val at h ⊢
  rw [run_eql_struct] at h
  rw [run_neq_struct]
  generalize (Op.equalIn 10000 83 (.agg x.cells.toArray) (.agg y.cells.toArray)).run Tryz.prog w = r at h ⊢
  cases r with
  | ok b w' => simp [Result.andThen] at h ⊢; exact h
  | halt e w' => simp [Result.andThen] at h
/-- Two lists are the same. -/
def itSame : List Itm → List Itm → Bool
  | [], [] => true
  | x :: r, y :: r' => itEq x y && itSame r r'
  | _, _ => false
theorem itSame_iff : ∀ (a b : List Itm), itSame a b = true ↔ a = b
  | [], [] => by simp [itSame]
  | [], _ :: _ => by simp [itSame]
  | _ :: _, [] => by simp [itSame]
  | x :: r, y :: r' => by simp [itSame, itEq_iff, itSame_iff r r']
theorem itSame_refl (a : List Itm) : itSame a a = true := (itSame_iff a a).2 rfl
theorem itSame_len {a b : List Itm} (h : a.length ≠ b.length) : itSame a b = false := by
  cases hs : itSame a b
  · rfl
  · exact absurd (congrArg List.length ((itSame_iff a b).1 hs)) h
theorem itSame_get {a b : List Itm} (hl : a.length = b.length) : itSame a b = true ↔ ∀ i, i < a.length → a[i]? = b[i]? := by
  rw [itSame_iff]
  constructor
  · rintro rfl i _; rfl
  · intro h
    apply List.ext_getElem?
    intro i
    by_cases hi : i < a.length
    · exact h i hi
    · rw [List.getElem?_eq_none (by omega), List.getElem?_eq_none (by omega)]
end Go.Proofs.YtjfmbjgniajagaaGreatDoor
