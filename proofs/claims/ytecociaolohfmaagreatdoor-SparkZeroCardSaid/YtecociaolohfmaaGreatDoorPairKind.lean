/- A map's key that is a struct of two strings: any program's. -/
import Derived.Test.YtecociaolohfmaaGreatDoorPairKey
import Derived.Laws.StructEq
import Derived.ChangeKeysEq
set_option linter.unusedSimpArgs false
set_option linter.unusedVariables false
namespace Go.Proofs.YtecociaolohfmaaGreatDoor
open Go.RowKit

def pairEnc (k : ByteArray × ByteArray) : Value := .agg #[.string k.1, .string k.2]
theorem pairEnc_inj (a b : ByteArray × ByteArray) (h : pairEnc a = pairEnc b) : a = b := by
  unfold pairEnc at h
  simp at h
  exact Prod.ext h.1 h.2
theorem two_fields {l : List Field} {a b : String × TypeId × Nat} (h : l.map (fun f => (f.name, f.type, f.offset)) = [a, b]) :
    ∃ f g : Field, l = [f, g] ∧ f.name = a.1 ∧ f.type = a.2.1 ∧ f.offset = a.2.2 ∧ g.name = b.1 ∧ g.type = b.2.1 ∧ g.offset = b.2.2 := by
  match l, h with
  | [f, g], h =>
    simp only [List.map_cons, List.map_nil, List.cons.injEq, and_true] at h
    obtain ⟨rfl, rfl⟩ := h
    exact ⟨f, g, rfl, rfl, rfl, rfl, rfl, rfl, rfl⟩
section
variable {P : Program} {t st : TypeId} {n1 n2 : String}
theorem pair_parts (hs : P.plainKey st = true) (w : World) (a : ByteArray × ByteArray) : (part st #[.string a.1, .string a.2] 0).run P w = .ok (.string a.1) w ∧ (part st #[.string a.1, .string a.2] 1).run P w = .ok (.string a.2) w :=
  ⟨run_part_plain w hs rfl, run_part_plain w hs rfl⟩
theorem pair_equal (hf : (P.fieldsOf t).toList.map (fun f => (f.name, f.type, f.offset)) = [(n1, st, 0), (n2, st, 1)]) (m1 : n1 ≠ "_") (m2 : n2 ≠ "_") (hu : P.underlying t = some (.struct (P.fieldsOf t))) (hst : P.stoodInHeld t = false) (hus : P.underlying st = some .string) (hs : P.plainKey st = true)
    (w : World) (a b : ByteArray × ByteArray) : (Op.equal t (pairEnc a) (pairEnc b)).run P w = .ok (a == b) w := by
  obtain ⟨f, g, hl, e1, t1, o1, e2, t2, o2⟩ := two_fields hf
  have h := run_equalIn_struct (P := P) w 9999 t #[.string a.1, .string a.2] #[.string b.1, .string b.2] hu hst
  show (Op.equalIn (9999 + 1) t (.agg #[.string a.1, .string a.2]) (.agg #[.string b.1, .string b.2])).run P w = _
  rw [h, hl]
  obtain ⟨p1, p2⟩ := pair_parts hs w a
  obtain ⟨q1, q2⟩ := pair_parts hs w b
  have se : ∀ (a b : ByteArray), (Op.equalIn 9999 st (.string a) (.string b)).run P w = .ok (a == b) w := fun a b => by
    show (Op.equalIn (9998 + 1) st (.string a) (.string b)).run P w = _
    rw [run_equalIn_string w 9998 st a b hus, beq_toListBytes]
  have s1 := se a.1 b.1
  have s2 := se a.2 b.2
  have hab : (a == b) = ((a.1 == b.1) && (a.2 == b.2)) := rfl
  rw [hab]
  simp only at e1 t1 o1 e2 t2 o2
  clear se hab h
  generalize (a.1 == b.1) = u at s1 ⊢
  generalize (a.2 == b.2) = v at s2 ⊢
  simp only [Op.eqFields, e1, t1, o1, e2, t2, o2]
  simp only [m1, m2, ne_eq, not_false_eq_true, if_true, Sem.run_bind, p1, p2, q1, q2, s1, Result.andThen_ok]
  cases u <;> cases v <;> simp [p1, p2, q1, q2, s2, m2, Result.andThen_ok]
theorem pair_check (hf : (P.fieldsOf t).toList.map (fun f => (f.name, f.type, f.offset)) = [(n1, st, 0), (n2, st, 1)]) (hu : P.underlying t = some (.struct (P.fieldsOf t))) (hus : P.underlying st = some .string) (hs : P.plainKey st = true)
    (w : World) (em : Bool) (a : ByteArray × ByteArray) : (Instr.checkKey em 10000 t (pairEnc a)).run P w = .ok () w := by
  obtain ⟨f, g, hl, e1, t1, o1, e2, t2, o2⟩ := two_fields hf
  obtain ⟨p1, p2⟩ := pair_parts hs w a
  have c : ∀ s, (Instr.checkKey em 9999 st (.string s)).run P w = .ok () w := fun s => by
    show (Instr.checkKey em (9998 + 1) st (.string s)).run P w = .ok () w
    rw [Instr.checkKey]
    simp only [Sem.run_bind, run_underlying hus, Result.andThen_ok]
    rfl
  show (Instr.checkKey em (9999 + 1) t (.agg #[.string a.1, .string a.2])).run P w = _
  rw [Instr.checkKey]
  simp only [Sem.run_bind, run_underlying hu, Result.andThen_ok]
  rw [← Array.forIn_toList, hl]
  simp only [List.forIn_cons, List.forIn_nil, e1, t1, o1, e2, t2, o2]
  by_cases m1 : n1 = "_" <;> by_cases m2 : n2 = "_" <;> simp [m1, m2, p1, p2, c, Result.andThen_ok]
theorem pair_kind (hf : (P.fieldsOf t).toList.map (fun f => (f.name, f.type, f.offset)) = [(n1, st, 0), (n2, st, 1)]) (m1 : n1 ≠ "_") (m2 : n2 ≠ "_") (hu : P.underlying t = some (.struct (P.fieldsOf t))) (hst : P.stoodInHeld t = false) (hus : P.underlying st = some .string) (hs : P.plainKey st = true) :
    KeyKind P t pairEnc where
  find := find_of_equal (by rw [hu]) (pair_equal hf m1 m2 hu hst hus hs)
  check := pair_check hf hu hus hs
  inj := pairEnc_inj
  stays w a := by
    unfold pairEnc
    simp [Instr.keyThatStays, Instr.sameBits]
end
end Go.Proofs.YtecociaolohfmaaGreatDoor
