/- 's[:n:n]' and an append behind it: a copy. No program in sight. -/
import Derived.Test.YtldagaliddgdjaaGreatDoorMrg3
namespace Go.Proofs.YtldagaliddgdjaaGreatDoor
open Go.RowKit

section
variable {α : Type} {enc : α → List Value} {k : Nat} {P : Program} {T t : TypeId} {bytes : Nat}
theorem Reads.full {w : World} {v : Value} {l : List α} (h : Reads enc w v l) (E : Elem P t T enc k bytes) (hcap : CapOk v) :
    ∃ v1, (∀ W, (Instr.sliceAt t v none (some (.int .i64 l.length)) (some (.int .i64 l.length))).run P W = .ok v1 W) ∧ Reads enc w v1 l ∧ (∃ a, v1 = .slice a l.length l.length) := by
  obtain ⟨inf, z, hinf, _, hsz, _, _⟩ := E.info
  have hs : ∀ W, (sizeOf T).run P W = .ok k W := fun W => by simp [sizeOf, typeInfo, hinf, hsz]
  rcases h with ⟨rfl, rfl⟩ | ⟨g, o, cap, rfl, hR⟩
  · refine ⟨.slice none 0 0, fun W => ?_, .inl ⟨rfl, rfl⟩, none, rfl⟩
    simp [Instr.sliceAt, Instr.slice, run_underlying E.ut, Instr.sliceBounds, run_sliceBound, hs, Result.andThen]
  · have hl := hcap _ _ _ rfl
    have h0 : (0 : Int) ≤ l.length := by omega
    have h1 : (l.length : Int) ≤ cap := by omega
    refine ⟨.slice (some ⟨g, o, none⟩) l.length l.length, fun W => ?_, .inr ⟨g, o, l.length, rfl, hR⟩, _, rfl⟩
    simp [Instr.sliceAt, Instr.slice, run_underlying E.ut, Instr.sliceBounds, run_sliceBound, hs, Result.andThen, h0, h1, Addr.add]
theorem run_append_full {w : World} {a0 : Option Addr} {s : Value} {l : List α} {x : α} (E : Elem P t T enc k bytes) (ty : TypeId) (h : Reads enc w (.slice a0 l.length l.length) l) (hs : Reads enc w s [x])
    (hlen : (l.length + 1) * bytes ≤ 140737488355328) (hmax : l.length + 1 ≤ maxLen) :
    ∃ v' w', (Builtin.append_ #[t, t] ty #[.slice a0 l.length l.length, s]).run P w = .ok v' w' ∧ Sl T enc k w.heap.size w' v' (l ++ [x]) ∧ Own [] w w' := by
  obtain ⟨i, z, hi, hz, hsz, hby, hzs⟩ := E.info
  subst hsz
  subst hby
  have hsmall : l.length + 1 ≤ 9223372036854775807 := by simp only [maxLen] at hmax; omega
  rcases hs with ⟨_, hx⟩ | ⟨b, o, c, rfl, hs⟩
  · cases hx
  have hnl : (rowOf enc [x]).length = 1 * i.size := by rw [rowOf_len E.len]; rfl
  have hnews : ∀ j u, (rowOf enc [x])[j]? = some u → w.cell? ((⟨b, o, none⟩ : Addr).add j) = some u := fun j u hu => by
    have e : (⟨b, o, none⟩ : Addr).add j = ⟨b, o + j, none⟩ := by unfold Addr.add; split <;> simp_all
    rw [e]; exact hs j u hu
  have grown : ∀ (old : Nat), old < l.length + 1 →
      Sl T enc i.size w.heap.size (w.drew.alloc (.cells ((rowOf enc l).toArray ++ (rowOf enc [x]).toArray ++ Builtin.zeroCells z.cells (grownCap w (l.length + 1) old T - (l.length + 1))) T))
        (.slice (some ⟨w.heap.size, 0, none⟩) (l.length + 1) (grownCap w (l.length + 1) old T)) (l ++ [x]) ∧
      Own [] w (w.drew.alloc (.cells ((rowOf enc l).toArray ++ (rowOf enc [x]).toArray ++ Builtin.zeroCells z.cells (grownCap w (l.length + 1) old T - (l.length + 1))) T)) := by
    intro old ho
    have hge := grownCap_ge w (l.length + 1) old T
    have hcm : grownCap w (l.length + 1) old T ≤ maxLen := grownCap_le_maxLen w (l.length + 1) old T hmax
    have hlen' : (rowOf enc (l ++ [x])).length = (l.length + 1) * i.size := by rw [rowOf_len E.len, List.length_append]; rfl
    refine ⟨?_, ((Own.refl _ _).drew).alloc _⟩
    unfold Sl
    rw [List.length_append, List.length_singleton]
    refine ⟨hlen', .inr ⟨w.heap.size, _, _, rfl, Nat.le_refl _, heap_alloc_new w.drew _, hge, hcm, ?_, ?_⟩⟩
    · simp only [Array.size_append, List.size_toArray, size_zeroCells, hzs, rowOf_len E.len, List.length_singleton, ← Nat.add_mul]
      congr 1
      omega
    · simp only [Array.toList_append, List.append_assoc]
      rw [← List.append_assoc, ← hlen', rowOf_append]
      exact List.take_left
  rcases h with ⟨he, rfl⟩ | ⟨b1, o1, c1, he, h1⟩
  · simp only [List.length_nil] at he
    cases he
    have hr := run_append_nil (P := P) w t ty T i z E.ut hi hz ⟨b, o, none⟩ 1 c (rowOf enc [x]) hnl hnews (by omega) (by omega) (by simp only [List.length_nil, Nat.zero_add] at hlen; omega)
    have hg := grown 0 (by omega)
    simp only [List.length_nil, Nat.zero_add] at hg ⊢
    have e : (rowOf enc ([] : List α)).toArray ++ (rowOf enc [x]).toArray = (rowOf enc [x]).toArray := by simp [rowOf]
    rw [e] at hg
    exact ⟨_, _, hr, hg⟩
  · obtain rfl : a0 = some ⟨b1, o1, none⟩ := by cases he; rfl
    have hold : ∀ j u, (rowOf enc l)[j]? = some u → w.cell? ((⟨b1, o1, none⟩ : Addr).add j) = some u := fun j u hu => by
      have e : (⟨b1, o1, none⟩ : Addr).add j = ⟨b1, o1 + j, none⟩ := by unfold Addr.add; split <;> simp_all
      rw [e]; exact h1 j u hu
    have hr := run_append_grow (P := P) w t ty T i z E.ut hi hz ⟨b1, o1, none⟩ l.length l.length (rowOf enc l) (rowOf_len E.len l) hold ⟨b, o, none⟩ 1 c (rowOf enc [x]) hnl hnews (by omega) (by omega) (growslice_fits (by omega) hlen)
    exact ⟨_, _, hr, grown l.length (by omega)⟩
end
end Go.Proofs.YtldagaliddgdjaaGreatDoor
