/- Keys that are structs: findKey asks (KeyKind's field find). -/
import Derived.Test.YtecociaolohfmaaGreatDoorBase
import Derived.WideKeyRuns
set_option linter.unusedSimpArgs false
set_option linter.unusedVariables false
namespace Go.Proofs.YtecociaolohfmaaGreatDoor
open Go.RowKit

theorem findAsking_of {P : Program} {kt : TypeId} {κ : Type} [BEq κ] {enc : κ → Value} (heq : ∀ (w : World) a b, (Op.equal kt (enc a) (enc b)).run P w = .ok (a == b) w) (w : World) (k : κ) :
    ∀ (es : List MapEntry) (l : List (κ × Value)) (i : Nat), es.map (fun e => (e.key, e.val)) = l.map (fun p => (enc p.1, p.2)) →
      (Instr.findAsking kt (enc k) es i).run P w = .ok ((l.findIdx? (fun p => k == p.1)).bind fun j => (l[j]?).map fun p => (i + j, p.2)) w
  | [], l, i, h => by
    cases l with
    | nil => simp [Instr.findAsking]
    | cons p r => simp at h
  | e :: es, l, i, h => by
    cases l with
    | nil => simp at h
    | cons p r =>
      simp only [List.map_cons, List.cons.injEq, Prod.mk.injEq] at h
      obtain ⟨⟨h1, h2⟩, h3⟩ := h
      simp only [Instr.findAsking, h1, Sem.run_bind, heq, Result.andThen_ok]
      cases hkp : (k == p.1)
      · have ih := findAsking_of heq w k es r (i + 1) h3
        simp only [List.findIdx?_cons, hkp]
        simp [ih]
        cases hf : r.findIdx? (fun p => k == p.1) with
        | none => simp
        | some j => simp [Nat.add_assoc, Nat.add_comm 1 j]
      · simp [List.findIdx?_cons, hkp, h2]
theorem find_of_equal {P : Program} {kt : TypeId} {κ : Type} [BEq κ] {enc : κ → Value} (hwide : (match P.underlying kt with | some (.array _ _) | some (.struct _) => true | _ => false) = true)
    (heq : ∀ (w : World) a b, (Op.equal kt (enc a) (enc b)).run P w = .ok (a == b) w) (w : World) (k : κ) (l : List (κ × Value)) (es : List MapEntry)
    (h : es.map (fun e => (e.key, e.val)) = l.map (fun p => (enc p.1, p.2))) : (Instr.findKey kt (enc k) es).run P w = .ok ((l.findIdx? (fun p => k == p.1)).bind fun j => (l[j]?).map fun p => (j, p.2)) w := by
  have := findAsking_of heq w k es l 0 h
  simp only [Nat.zero_add] at this
  rw [run_findKey_eq w hwide]
  exact this
end Go.Proofs.YtecociaolohfmaaGreatDoor
