/- Slicing a slice that is only read. No program in sight. -/
import Derived.Test.YtecociaolohfmaaGreatDoorNew
namespace Go.Proofs.YtecociaolohfmaaGreatDoor
open Go.RowKit

def CapOk (v : Value) : Prop := ∀ a n c, v = .slice a n c → n ≤ c
theorem Reads.drop {α : Type} {enc : α → List Value} {k : Nat} {P : Program} {T t : TypeId} {bytes : Nat} {w : World} {v : Value} {l : List α} (h : Reads enc w v l) (E : Elem P t T enc k bytes) (hcap : CapOk v) {i : Nat} (hi : i ≤ l.length) :
    ∃ v1, (∀ W, (Instr.sliceAt t v (some (.int .i64 i)) none none).run P W = .ok v1 W) ∧ Reads enc w v1 (l.drop i) ∧ (∀ b, v1.ownBlock = some b → v.ownBlock = some b) ∧ CapOk v1 := by
  obtain ⟨inf, z, hinf, _, hsz, _, _⟩ := E.info
  have hs : ∀ W, (sizeOf T).run P W = .ok k W := fun W => by simp [sizeOf, typeInfo, hinf, hsz]
  have hi0 : (0 : Int) ≤ i := by omega
  rcases h with ⟨rfl, rfl⟩ | ⟨g, o, cap, rfl, hR⟩
  · obtain rfl : i = 0 := by simpa using hi
    refine ⟨.slice none 0 0, fun W => ?_, .inl ⟨rfl, by simp⟩, fun b hb => hb, hcap⟩
    simp [Instr.sliceAt, Instr.slice, run_underlying E.ut, Instr.sliceBounds, run_sliceBound, hs, Result.andThen]
  · have h2 : (i : Int) ≤ l.length := by omega
    have hl : (rowOf enc (l.take i)).length = i * k := by rw [rowOf_len E.len, List.length_take_of_le hi]
    have hget : ∀ j u, (rowOf enc (l.drop i))[j]? = some u → w.cell? ⟨g, o + (i * k + j), none⟩ = some u := fun j u hu => by
      refine hR (i * k + j) u ?_
      conv => lhs; rw [← List.take_append_drop i l, rowOf_append]
      rw [List.getElem?_append_right (by omega), hl, Nat.add_sub_cancel_left]; exact hu
    have hlc := hcap _ _ _ rfl
    have hco : CapOk (.slice (some ⟨g, o, none⟩) (l.length - i) (cap - i)) := fun a n c e => by cases e; omega
    have hco2 : CapOk (.slice (some ⟨g, o + i * k, none⟩) (l.length - i) (cap - i)) := fun a n c e => by cases e; omega
    by_cases hc : cap = i
    · refine ⟨.slice (some ⟨g, o, none⟩) (l.length - i) (cap - i), fun W => ?_, .inr ⟨g, o, cap - i, by rw [List.length_drop], fun j u hu => ?_⟩, fun b hb => by simpa [Value.ownBlock] using hb, hco⟩
      · simp [Instr.sliceAt, Instr.slice, run_underlying E.ut, Instr.sliceBounds, run_sliceBound, hs, Result.andThen, hi0, h2, hc]
      · exfalso
        have hj := (List.getElem?_eq_some_iff.1 hu).1
        rw [rowOf_len E.len, List.length_drop, show l.length - i = 0 by omega] at hj
        omega
    · refine ⟨.slice (some ⟨g, o + i * k, none⟩) (l.length - i) (cap - i), fun W => ?_, .inr ⟨g, o + i * k, cap - i, by rw [List.length_drop], fun j u hu => ?_⟩, fun b hb => by simpa [Value.ownBlock] using hb, hco2⟩
      · simp [Instr.sliceAt, Instr.slice, run_underlying E.ut, Instr.sliceBounds, run_sliceBound, hs, Result.andThen, hi0, h2, hc, Addr.add]
      · rw [Nat.add_assoc]; exact hget j u hu
theorem Sl.capOk {α : Type} {enc : α → List Value} {k base : Nat} {T : TypeId} {w : World} {v : Value} {l : List α} (h : Sl T enc k base w v l) : CapOk v := by
  rcases h.form with ⟨rfl, rfl⟩ | ⟨g, cap, rfl, _, cur, _, h1, _⟩
  · intro a n c e; cases e; exact Nat.le_refl _
  · intro a n c e; cases e; exact h1
end Go.Proofs.YtecociaolohfmaaGreatDoor
