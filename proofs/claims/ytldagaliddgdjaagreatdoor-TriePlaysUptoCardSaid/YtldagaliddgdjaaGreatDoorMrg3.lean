/- Slicing a slice that is only read. No program in sight. Runes and bytes of names and filters: plain. No program in sight. -/
import Derived.Test.YtldagaliddgdjaaGreatDoorMrg2
import Derived.Test.YtldagaliddgdjaaGreatDoorMatch
namespace Go.Proofs.YtldagaliddgdjaaGreatDoor
open Go.RowKit

def CapOk (v : Value) : Prop := ∀ a n c, v = .slice a n c → n ≤ c
theorem Reads.drop {α : Type} {enc : α → List Value} {k : Nat} {P : Program} {T t : TypeId} {bytes : Nat} {w : World} {v : Value} {l : List α} (h : Reads enc w v l) (E : Elem P t T enc k bytes) (hcap : CapOk v) {i : Nat} (hi : i ≤ l.length) :
    ∃ v1, (∀ W, (Instr.sliceAt t v (some (.int .i64 i)) none none).run P W = .ok v1 W) ∧ Reads enc w v1 (l.drop i) ∧ (∀ b, v1.ownBlock = some b → v.ownBlock = some b) ∧ CapOk v1 := by
  obtain ⟨inf, z, hinf, _, hsz, _, _⟩ := E.info
  have hs : ∀ W, (sizeOf T).run P W = .ok k W := fun W => by simp [sizeOf, typeInfo, hinf, hsz]
  have hi0 : (0 : Int) ≤ i := by omega
  rcases h with ⟨rfl, rfl⟩ | ⟨g, o, cap, rfl, hR⟩
  · obtain rfl : i = 0 := by simpa using hi
    refine ⟨.slice none 0 0, fun W => ?_, .inl ⟨rfl, by simp⟩, fun b hb => hb, hcap⟩
    simp [Instr.sliceAt, Instr.slice, run_underlying E.ut, Instr.sliceBounds, run_sliceBound, hs, Result.andThen]
  · have h2 : (i : Int) ≤ l.length := by omega
    have hl : (rowOf enc (l.take i)).length = i * k := by rw [rowOf_len E.len, List.length_take_of_le hi]
    have hget : ∀ j u, (rowOf enc (l.drop i))[j]? = some u → w.cell? ⟨g, o + (i * k + j), none⟩ = some u := fun j u hu => by
      refine hR (i * k + j) u ?_
      conv => lhs; rw [← List.take_append_drop i l, rowOf_append]
      rw [List.getElem?_append_right (by omega), hl, Nat.add_sub_cancel_left]; exact hu
    have hlc := hcap _ _ _ rfl
    have hco : CapOk (.slice (some ⟨g, o, none⟩) (l.length - i) (cap - i)) := fun a n c e => by cases e; omega
    have hco2 : CapOk (.slice (some ⟨g, o + i * k, none⟩) (l.length - i) (cap - i)) := fun a n c e => by cases e; omega
    by_cases hc : cap = i
    · refine ⟨.slice (some ⟨g, o, none⟩) (l.length - i) (cap - i), fun W => ?_, .inr ⟨g, o, cap - i, by rw [List.length_drop], fun j u hu => ?_⟩, fun b hb => by simpa [Value.ownBlock] using hb, hco⟩
      · simp [Instr.sliceAt, Instr.slice, run_underlying E.ut, Instr.sliceBounds, run_sliceBound, hs, Result.andThen, hi0, h2, hc]
      · exfalso
        have hj := (List.getElem?_eq_some_iff.1 hu).1
        rw [rowOf_len E.len, List.length_drop, show l.length - i = 0 by omega] at hj
        omega
    · refine ⟨.slice (some ⟨g, o + i * k, none⟩) (l.length - i) (cap - i), fun W => ?_, .inr ⟨g, o + i * k, cap - i, by rw [List.length_drop], fun j u hu => ?_⟩, fun b hb => by simpa [Value.ownBlock] using hb, hco2⟩
      · simp [Instr.sliceAt, Instr.slice, run_underlying E.ut, Instr.sliceBounds, run_sliceBound, hs, Result.andThen, hi0, h2, hc, Addr.add]
      · rw [Nat.add_assoc]; exact hget j u hu
theorem Sl.capOk {α : Type} {enc : α → List Value} {k base : Nat} {T : TypeId} {w : World} {v : Value} {l : List α} (h : Sl T enc k base w v l) : CapOk v := by
  rcases h.form with ⟨rfl, rfl⟩ | ⟨g, cap, rfl, _, cur, _, h1, _⟩
  · intro a n c e; cases e; exact Nat.le_refl _
  · intro a n c e; cases e; exact h1
end Go.Proofs.YtldagaliddgdjaaGreatDoor

namespace Go.Proofs.YtldagaliddgdjaaGreatDoor
open Go.RowKit Go.Lib Go.Shelf

theorem get_is2 (s : ByteArray) (j : Nat) (h : j < s.size) : s.get! j = s[j]'h := by
  show s.data[j]! = s.data[j]'h
  exact getElem!_pos s.data j h
/-- A rune below 128 is its byte; the others' bytes are not below. -/
theorem dec_low {s : ByteArray} {i : Nat} (hi : i < s.size) : 1 ≤ (Utf8.decode s i).2 ∧ i + (Utf8.decode s i).2 ≤ s.size ∧
    (((Utf8.decode s i) = ((s.get! i).toNat, 1) ∧ (s.get! i).toNat < 128) ∨ (128 ≤ (Utf8.decode s i).1 ∧ ∀ j, i ≤ j → j < i + (Utf8.decode s i).2 → 128 ≤ (s.get! j).toNat)) := by
  have hsh := Lib.decodeN_shape (s.size - i) (s.get! i).toNat (s.get! (i + 1)).toNat (s.get! (i + 2)).toNat (s.get! (i + 3)).toNat
  rw [← Lib.decode_at] at hsh
  by_cases hb : (s.get! i).toNat < 128
  · have e : Utf8.decode s i = ((s.get! i).toNat, 1) := by
      have h1 := decode_ascii s i hi (by rw [← get_is2 s i hi]; exact hb)
      rw [h1, ← get_is2 s i hi]
    rw [e]
    exact ⟨Nat.le_refl _, hi, .inl ⟨rfl, hb⟩⟩
  · rcases hsh with ⟨h, _⟩ | ⟨h0, h1, h2, h3, h4⟩ | ⟨h0, h1, h2, h3, h4, _, h5⟩ | ⟨h0, h1, h2, h3, h4, h5, _, h6⟩ | h
    · omega
    · rw [h4]
      refine ⟨by simp, by simp; omega, .inr ⟨by simp; omega, fun j a b => ?_⟩⟩
      have : j = i ∨ j = i + 1 := by simp at b; omega
      rcases this with rfl | rfl <;> omega
    · rw [h5]
      refine ⟨by simp, by simp; omega, .inr ⟨by simp; omega, fun j a b => ?_⟩⟩
      have : j = i ∨ j = i + 1 ∨ j = i + 2 := by simp at b; omega
      rcases this with rfl | rfl | rfl <;> omega
    · rw [h6]
      refine ⟨by simp, by simp; omega, .inr ⟨by simp; omega, fun j a b => ?_⟩⟩
      have : j = i ∨ j = i + 1 ∨ j = i + 2 ∨ j = i + 3 := by simp at b; omega
      rcases this with rfl | rfl | rfl | rfl <;> omega
    · rw [h]
      refine ⟨Nat.le_refl _, by simp; omega, .inr ⟨by simp, fun j a b => ?_⟩⟩
      obtain rfl : j = i := by simp at b; omega
      omega
def wildB (c : UInt8) : Bool := c == 43 || c == 35
theorem wildB_nat (c : UInt8) : wildB c = isWild c.toNat := by
  unfold wildB isWild
  have h : ∀ k : UInt8, (c == k) = (c.toNat == k.toNat) := fun k => by
    rw [Bool.eq_iff_iff]; simp [UInt8.toNat_inj]
  rw [h 43, h 35]; rfl
theorem drop_any {s : ByteArray} (p : UInt8 → Bool) {i : Nat} (hi : i < s.size) : (s.toList.drop i).any p = (p (s.get! i) || (s.toList.drop (i + 1)).any p) := by
  rw [List.drop_eq_getElem_cons (by rw [size_toList]; exact hi), List.any_cons]
  have e := get_toList s i hi
  rw [List.getElem?_eq_getElem (by rw [size_toList]; exact hi)] at e
  rw [Option.some.inj e]
theorem drop_any_skip {s : ByteArray} (p : UInt8 → Bool) (n : Nat) : ∀ {i : Nat}, i + n ≤ s.size → (∀ j, i ≤ j → j < i + n → p (s.get! j) = false) → (s.toList.drop i).any p = (s.toList.drop (i + n)).any p := by
  induction n with
  | zero => intro i _ _; rfl
  | succ n ih =>
    intro i h1 h2
    rw [drop_any p (by omega), h2 i (Nat.le_refl _) (by omega), Bool.false_or, ih (i := i + 1) (by omega) (fun j a b => h2 j (by omega) (by omega))]
    congr 2; omega
theorem hasRune_wild (s : ByteArray) : ∀ (f i : Nat), s.size ≤ i + f → hasRune isWild s f i = (s.toList.drop i).any wildB
  | 0, i, h => by
    rw [List.drop_eq_nil_of_le (by rw [size_toList]; omega)]; rfl
  | f + 1, i, h => by
    unfold hasRune
    by_cases hi : i < s.size
    · rw [if_pos hi]
      obtain ⟨d1, d2, d3⟩ := dec_low hi
      rcases d3 with ⟨d3, d4⟩ | ⟨d3, d4⟩
      · rw [d3, hasRune_wild s f _ (by simp only; omega), drop_any _ hi, wildB_nat]
      · have h0 : isWild (Utf8.decode s i).1 = false := by unfold isWild; simp; omega
        rw [h0, Bool.false_or, hasRune_wild s f _ (by omega), drop_any_skip wildB _ d2]
        intro j a b
        rw [wildB_nat]
        have := d4 j a b
        unfold isWild; simp; omega
    · rw [if_neg hi, List.drop_eq_nil_of_le (by rw [size_toList]; omega)]; rfl
theorem lvWild_eq (s : ByteArray) : lvWild s = s.toList.any wildB := by
  unfold lvWild
  rw [hasRune_wild s s.size 0 (by omega), List.drop_zero]
/-- A level's bytes are the text's. -/
theorem cutL_mem : ∀ (l : List UInt8), ∀ x ∈ cutL l, ∀ c ∈ x, c ∈ l
  | [], x, hx, c, hc => by simp [cutL] at hx; subst hx; cases hc
  | d :: r, x, hx, c, hc => by
    have ih := cutL_mem r
    rw [cutL_cons] at hx
    split at hx
    · rcases List.mem_cons.1 hx with rfl | h
      · cases hc
      · exact List.mem_cons_of_mem _ (ih x h c hc)
    · split at hx
      · rename_i y t he
        rcases List.mem_cons.1 hx with rfl | h
        · rcases List.mem_cons.1 hc with rfl | h2
          · exact List.mem_cons_self ..
          · exact List.mem_cons_of_mem _ (ih y (by rw [he]; exact List.mem_cons_self ..) c h2)
        · exact List.mem_cons_of_mem _ (ih x (by rw [he]; exact List.mem_cons_of_mem _ h) c hc)
      · simp at hx
        subst hx
        simp at hc
        subst hc
        exact List.mem_cons_self ..
theorem name_level {s : ByteArray} (h : lvName s = true) : ∀ x ∈ levels s, x ≠ hashB ∧ x ≠ plusB := by
  unfold lvName at h
  rw [Bool.and_eq_true, lvWild_eq] at h
  have hw : ∀ c ∈ s.toList, wildB c = false := fun c hc => by
    have := h.2
    simp only [Bool.not_eq_true', List.any_eq_false] at this
    simpa using this c hc
  intro x hx
  obtain ⟨y, hy, rfl⟩ := List.mem_map.1 hx
  have hm := cutL_mem s.toList y hy
  constructor
  · intro e
    have : (35 : UInt8) ∈ y := by
      have h2 := congrArg ByteArray.toList e
      rw [mkB_toList, hash_list] at h2
      rw [h2]; exact List.mem_cons_self ..
    have := hw _ (hm _ this)
    simp [wildB] at this
  · intro e
    have : (43 : UInt8) ∈ y := by
      have h2 := congrArg ByteArray.toList e
      rw [mkB_toList, plus_list] at h2
      rw [h2]; exact List.mem_cons_self ..
    have := hw _ (hm _ this)
    simp [wildB] at this
theorem filter_ok {s : ByteArray} (h : lvFilter s = true) {i : Nat} {x : ByteArray} (hx : (levels s)[i]? = some x) : lvOk (i + 1 == (levels s).length) x = true := by
  unfold lvFilter at h
  rw [Bool.and_eq_true, List.all_eq_true] at h
  refine h.2 (x, i) ?_
  rw [List.mem_zipIdx_iff_getElem?]
  exact hx
theorem wild_hash : lvWild hashB = true := by rw [lvWild_eq, hash_list]; decide
theorem wild_plus : lvWild plusB = true := by rw [lvWild_eq, plus_list]; decide
theorem hash_last {s : ByteArray} (h : lvFilter s = true) {i : Nat} (hx : (levels s)[i]? = some hashB) : i + 1 = (levels s).length := by
  have := filter_ok h hx
  unfold lvOk at this
  rw [wild_hash] at this
  have hne : (hashB == plusB) = false := by
    rw [eq_toList, hash_list, plus_list]; decide
  rw [hne] at this
  simpa using this
theorem wild_head {s : ByteArray} (h : lvFilter s = true) : fWild s = true ↔ (levels s).head? = some hashB ∨ (levels s).head? = some plusB := by
  have hsz := (lvSized_pos (by unfold lvFilter at h; rw [Bool.and_eq_true] at h; exact h.1)).1
  have h0 := fun x hx => filter_ok h (i := 0) (x := x) hx
  unfold fWild levels at *
  cases hl : s.toList with
  | nil => rw [← size_toList, hl] at hsz; simp at hsz
  | cons c r =>
    rw [hl] at h0
    have hhd : (cutL (c :: r)).head? = some (if c = 47 then [] else match cutL r with | x :: t => c :: x | [] => [c]) := by
      rw [cutL_cons]
      by_cases hc : c = 47
      · rw [if_pos hc, if_pos hc]; rfl
      · rw [if_neg hc, if_neg hc]
        cases cutL r <;> rfl
    simp only [List.head?_cons, List.head?_map, hhd, Option.map_some, Option.some.injEq]
    constructor
    · intro hw
      have hc : c = 43 ∨ c = 35 := by simpa using hw
      have hc47 : c ≠ 47 := by rintro rfl; rcases hc with h | h <;> simp at h
      rw [if_neg hc47] at hhd ⊢
      have hx : ∃ y, (match cutL r with | x :: t => c :: x | [] => [c]) = c :: y := by cases cutL r with | nil => exact ⟨[], rfl⟩ | cons x t => exact ⟨x, rfl⟩
      obtain ⟨y, hy⟩ := hx
      rw [hy] at hhd ⊢
      have hok := h0 (mkB (c :: y)) (by rw [List.getElem?_map, ← List.head?_eq_getElem?, hhd]; rfl)
      have hwi : lvWild (mkB (c :: y)) = true := by
        rw [lvWild_eq, mkB_toList, List.any_cons]
        have : wildB c = true := by rcases hc with rfl | rfl <;> decide
        rw [this, Bool.true_or]
      unfold lvOk at hok
      rw [hwi] at hok
      simp only [Bool.not_true, Bool.or_false, Bool.or_eq_true, Bool.and_eq_true, beq_iff_eq] at hok
      rcases hok with h | h
      · exact .inr h
      · exact .inl h.1
    · intro hw
      have hcy : ∀ d : UInt8, mkB (if c = 47 then [] else match cutL r with | x :: t => c :: x | [] => [c]) = mkB [d] → c = d := fun d e => by
        have e2 := mkB_inj e
        by_cases hc : c = 47
        · rw [if_pos hc] at e2; cases e2
        · rw [if_neg hc] at e2
          cases hr : cutL r with
          | nil => rw [hr] at e2; exact (List.cons.inj e2).1
          | cons x t => rw [hr] at e2; exact (List.cons.inj e2).1
      rcases hw with hw | hw
      · have := hcy 35 (by rw [hw]; rfl)
        simp [this]
      · have := hcy 43 (by rw [hw]; rfl)
        simp [this]
end Go.Proofs.YtldagaliddgdjaaGreatDoor
