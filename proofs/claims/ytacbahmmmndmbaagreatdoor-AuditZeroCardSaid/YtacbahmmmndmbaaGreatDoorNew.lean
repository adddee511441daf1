/- Slices that a call makes, and slices that it reads, wherever they lie; append and s[i:j] in these words. -/
import Derived.Test.YtacbahmmmndmbaaGreatDoorRow
import Derived.Deep.Upon
namespace Go.Proofs.YtacbahmmmndmbaaGreatDoor
open Go.RowKit

section
variable {α : Type} {enc : α → List Value} {k : Nat} {P : Program}

/-- What a slice holds, wherever it lies. -/
def Reads (enc : α → List Value) (w : World) (s : Value) (l : List α) : Prop :=
  (s = .slice none 0 0 ∧ l = []) ∨ ∃ b o c, s = .slice (some ⟨b, o, none⟩) l.length c ∧ ∀ j u, (rowOf enc l)[j]? = some u → w.cell? ⟨b, o + j, none⟩ = some u
/-- A slice that is nil, or lies whole in a block that is not older than base. -/
def Sl (T : TypeId) (enc : α → List Value) (k base : Nat) (w : World) (v : Value) (l : List α) : Prop := w.ownsRow base T k v l.length (rowOf enc l)
/-- The elements of a slice's type. -/
structure Elem (P : Program) (t T : TypeId) (enc : α → List Value) (k bytes : Nat) : Prop where
  ut : P.underlying t = some (.slice T)
  info : ∃ i z, P.info? T = some i ∧ i.zero = some z ∧ i.size = k ∧ i.bytes = bytes ∧ z.cells.size = k
  pos : 0 < k
  len : ∀ x, (enc x).length = k
  one : ∀ x, ∀ u ∈ enc x, u.oneCell' = true

theorem rowOf_one (h : ∀ x, ∀ u ∈ enc x, u.oneCell' = true) (l : List α) : ∀ u ∈ rowOf enc l, u.oneCell' = true := by
  intro u hu
  obtain ⟨x, _, hx⟩ := List.mem_flatMap.1 hu
  exact h x u hx
theorem Reads.nil (w : World) : Reads enc w (.slice none 0 0) [] := .inl ⟨rfl, rfl⟩
theorem Reads.own {S : List Nat} {w w' : World} {s : Value} {l : List α} (h : Reads enc w s l) (ho : Own S w w') (hn : ∀ b, s.ownBlock = some b → b ∉ S) : Reads enc w' s l := by
  rcases h with h | ⟨b, o, c, rfl, h⟩
  · exact .inl h
  · exact .inr ⟨b, o, c, rfl, fun j u hu => (ho.cell (p := ⟨b, o + j, none⟩) (block_lt_of_cell (h j u hu)) (hn b rfl)).trans (h j u hu)⟩
theorem Reads.nil' {w w' : World} {s : Value} {l : List α} (h : Reads enc w s l) (ho : Own [] w w') : Reads enc w' s l := h.own ho (by simp)
theorem Reads.form {w : World} {s : Value} {l : List α} (h : Reads enc w s l) : ∃ a c, s = .slice a l.length c := by
  rcases h with ⟨rfl, rfl⟩ | ⟨b, o, c, rfl, _⟩
  · exact ⟨_, _, rfl⟩
  · exact ⟨_, _, rfl⟩
theorem Reads.at_ {w : World} {a : Option Addr} {n c : Nat} {l : List α} (h : Reads enc w (.slice a n c) l) (hk : ∀ x, (enc x).length = k) (hl : 0 < l.length) :
    ∃ b o, a = some ⟨b, o, none⟩ ∧ ∀ i x j u, l[i]? = some x → (enc x)[j]? = some u → w.cell? ⟨b, o + (i * k + j), none⟩ = some u := by
  rcases h with ⟨_, rfl⟩ | ⟨b, o, c, he, h⟩
  · simp at hl
  · cases he
    exact ⟨b, o, rfl, fun i x j u hx hu => h _ _ ((rowOf_get hk l i j x hx (by rw [← hk x]; exact (List.getElem?_eq_some_iff.1 hu).1)).trans hu)⟩
/-- A slice of one element, just built. -/
theorem Reads.new {T : TypeId} (w : World) (x : α) (c : Nat) : Reads enc (w.alloc (.cells (enc x).toArray T)) (.slice (some ⟨w.heap.size, 0, none⟩) 1 c) [x] := by
  refine .inr ⟨w.heap.size, 0, c, rfl, fun j u hu => ?_⟩
  rw [cell_of_row _ _ _ _ _ _ (heap_alloc_new w (.cells (enc x).toArray T))]
  simpa [rowOf] using hu

theorem Sl.nil (T : TypeId) (base : Nat) (w : World) : Sl T enc k base w (.slice none 0 0) [] := ⟨by simp [rowOf], .inl ⟨rfl, rfl⟩⟩
theorem Sl.form {T : TypeId} {base : Nat} {w : World} {v : Value} {l : List α} (h : Sl T enc k base w v l) : (v = .slice none 0 0 ∧ l = []) ∨ ∃ g cap, v = .slice (some ⟨g, 0, none⟩) l.length cap ∧ base ≤ g ∧ Row T enc k w g cap l := by
  rcases h.2 with ⟨h0, h1⟩ | ⟨g, cap, cur, he, hb, hg, h1, h2, h3, h4⟩
  · exact .inl ⟨h0, List.eq_nil_of_length_eq_zero h1⟩
  · exact .inr ⟨g, cap, he, hb, cur, hg, h1, h2, h3, h4⟩
theorem Sl.sl {T : TypeId} {base : Nat} {w : World} {v : Value} {l : List α} (h : Sl T enc k base w v l) : ∃ a cap, v = .slice a l.length cap := by
  rcases h.form with ⟨rfl, rfl⟩ | ⟨g, cap, rfl, _⟩
  · exact ⟨_, _, rfl⟩
  · exact ⟨_, _, rfl⟩
theorem Sl.block {T : TypeId} {base : Nat} {w : World} {v : Value} {l : List α} (h : Sl T enc k base w v l) {g : Nat} (hg : v.ownBlock = some g) : base ≤ g ∧ g < w.heap.size := by
  rcases h.form with ⟨rfl, _⟩ | ⟨g', cap, rfl, h1, h2⟩
  · simp [Value.ownBlock] at hg
  · simp [Value.ownBlock] at hg
    subst hg
    exact ⟨h1, h2.lt⟩
theorem Sl.own {S : List Nat} {T : TypeId} {base : Nat} {w w' : World} {v : Value} {l : List α} (h : Sl T enc k base w v l) (ho : Own S w w') (hS : ∀ b, v.ownBlock = some b → b ∉ S) : Sl T enc k base w' v l := by
  obtain ⟨h1, h2⟩ := h
  refine ⟨h1, ?_⟩
  rcases h2 with h2 | ⟨g, cap, cur, rfl, hb, hg, h3⟩
  · exact .inl h2
  · exact .inr ⟨g, cap, cur, rfl, hb, ho.heap hg (hS g rfl), h3⟩
theorem Sl.nil' {T : TypeId} {base : Nat} {w w' : World} {v : Value} {l : List α} (h : Sl T enc k base w v l) (ho : Own [] w w') : Sl T enc k base w' v l := h.own ho (by simp)
theorem Sl.mono {T : TypeId} {base base' : Nat} {w : World} {v : Value} {l : List α} (h : Sl T enc k base w v l) (hb : base' ≤ base) : Sl T enc k base' w v l := by
  obtain ⟨h1, h2⟩ := h
  refine ⟨h1, ?_⟩
  rcases h2 with h2 | ⟨g, cap, cur, he, hg, h3⟩
  · exact .inl h2
  · exact .inr ⟨g, cap, cur, he, Nat.le_trans hb hg, h3⟩
theorem Sl.empty (T : TypeId) (w : World) : Sl T enc k w.heap.size (w.alloc (.cells #[] T)) (.slice (some ⟨w.heap.size, 0, none⟩) 0 0) ([] : List α) :=
  ⟨by simp [rowOf], .inr ⟨w.heap.size, 0, #[], rfl, Nat.le_refl _, heap_alloc_new _ _, Nat.le_refl _, by unfold maxLen; omega, by simp, by simp [rowOf]⟩⟩
theorem Sl.made {T : TypeId} {w : World} {cap : Nat} {cur : Array Value} (hc : cap ≤ maxLen) (hs : cur.size = cap * k) : Sl T enc k w.heap.size (w.alloc (.cells cur T)) (.slice (some ⟨w.heap.size, 0, none⟩) 0 cap) ([] : List α) :=
  ⟨by simp [rowOf], .inr ⟨w.heap.size, cap, cur, rfl, Nat.le_refl _, heap_alloc_new _ _, Nat.zero_le _, hc, hs, by simp [rowOf]⟩⟩
theorem Sl.reads {T : TypeId} {base : Nat} {w : World} {v : Value} {l : List α} (h : Sl T enc k base w v l) (hk : ∀ x, (enc x).length = k) : Reads enc w v l := by
  rcases h.form with ⟨rfl, rfl⟩ | ⟨g, cap, rfl, _, hR⟩
  · exact .inl ⟨rfl, rfl⟩
  · refine .inr ⟨g, 0, cap, rfl, fun j u hu => ?_⟩
    rw [Nat.zero_add]
    refine hR.flat hu ?_
    rw [← rowOf_len hk]
    exact (List.getElem?_eq_some_iff.1 hu).1
theorem Sl.of_row {T : TypeId} {base : Nat} {w : World} {g cap : Nat} {l : List α} (h : Row T enc k w g cap l) (hk : ∀ x, (enc x).length = k) (hb : base ≤ g) : Sl T enc k base w (.slice (some ⟨g, 0, none⟩) l.length cap) l := by
  obtain ⟨cur, hc, h1, h2, h3, h4⟩ := h
  exact ⟨rowOf_len hk l, .inr ⟨g, cap, cur, rfl, hb, hc, h1, h2, h3, h4⟩⟩

/-- 's[:i]'. -/
theorem Sl.take {T t : TypeId} {base bytes : Nat} {w : World} {v : Value} {l : List α} (h : Sl T enc k base w v l) (E : Elem P t T enc k bytes) {i : Nat} (hi : i ≤ l.length) :
    ∃ v1, (∀ W, (Instr.sliceAt t v none (some (.int .i64 i)) none).run P W = .ok v1 W) ∧ Reads enc w v1 (l.take i) ∧ (∀ b, v1.ownBlock = some b → v.ownBlock = some b) := by
  obtain ⟨inf, z, hinf, _, hsz, _, _⟩ := E.info
  have hs : ∀ W, (sizeOf T).run P W = .ok k W := fun W => by simp [sizeOf, typeInfo, hinf, hsz]
  have hi0 : (0 : Int) ≤ i := by omega
  rcases h.form with ⟨rfl, rfl⟩ | ⟨g, cap, rfl, _, hR⟩
  · obtain rfl : i = 0 := by simpa using hi
    refine ⟨.slice none 0 0, fun W => ?_, .inl ⟨rfl, by simp⟩, fun b hb => hb⟩
    simp [Instr.sliceAt, Instr.slice, run_underlying E.ut, Instr.sliceBounds, run_sliceBound, hs, Result.andThen]
  · have hcap : l.length ≤ cap := by obtain ⟨_, _, h, _⟩ := hR; exact h
    refine ⟨.slice (some ⟨g, 0, none⟩) i cap, fun W => ?_, .inr ⟨g, 0, cap, by rw [List.length_take_of_le hi], fun j u hu => ?_⟩, fun b hb => by simpa [Value.ownBlock] using hb⟩
    · have h2 : (i : Int) ≤ cap := by omega
      simp [Instr.sliceAt, Instr.slice, run_underlying E.ut, Instr.sliceBounds, run_sliceBound, hs, Result.andThen, hi0, h2, Addr.add]
    · rw [Nat.zero_add]
      have hj := (List.getElem?_eq_some_iff.1 hu).1
      have e : (rowOf enc l)[j]? = some u := by
        conv => lhs; rw [← List.take_append_drop i l, rowOf_append]
        rw [List.getElem?_append_left hj]; exact hu
      refine hR.flat e ?_
      rw [← rowOf_len E.len]
      exact (List.getElem?_eq_some_iff.1 e).1
/-- 's[i:]'. -/
theorem Sl.drop {T t : TypeId} {base bytes : Nat} {w : World} {v : Value} {l : List α} (h : Sl T enc k base w v l) (E : Elem P t T enc k bytes) {i : Nat} (hi : i ≤ l.length) :
    ∃ v1, (∀ W, (Instr.sliceAt t v (some (.int .i64 i)) none none).run P W = .ok v1 W) ∧ Reads enc w v1 (l.drop i) ∧ (∀ b, v1.ownBlock = some b → v.ownBlock = some b) := by
  obtain ⟨inf, z, hinf, _, hsz, _, _⟩ := E.info
  have hs : ∀ W, (sizeOf T).run P W = .ok k W := fun W => by simp [sizeOf, typeInfo, hinf, hsz]
  have hi0 : (0 : Int) ≤ i := by omega
  rcases h.form with ⟨rfl, rfl⟩ | ⟨g, cap, rfl, _, hR⟩
  · obtain rfl : i = 0 := by simpa using hi
    refine ⟨.slice none 0 0, fun W => ?_, .inl ⟨rfl, by simp⟩, fun b hb => hb⟩
    simp [Instr.sliceAt, Instr.slice, run_underlying E.ut, Instr.sliceBounds, run_sliceBound, hs, Result.andThen]
  · have h2 : (i : Int) ≤ l.length := by omega
    have hl : (rowOf enc (l.take i)).length = i * k := by rw [rowOf_len E.len, List.length_take_of_le hi]
    by_cases hc : cap = i
    · refine ⟨.slice (some ⟨g, 0, none⟩) (l.length - i) (cap - i), fun W => ?_, .inr ⟨g, 0, cap - i, by rw [List.length_drop], fun j u hu => ?_⟩, fun b hb => by simpa [Value.ownBlock] using hb⟩
      · simp [Instr.sliceAt, Instr.slice, run_underlying E.ut, Instr.sliceBounds, run_sliceBound, hs, Result.andThen, hi0, h2, hc]
      · exfalso
        have hcap : l.length ≤ cap := by obtain ⟨_, _, h, _⟩ := hR; exact h
        have hj := (List.getElem?_eq_some_iff.1 hu).1
        rw [rowOf_len E.len, List.length_drop, show l.length - i = 0 by omega] at hj
        omega
    · refine ⟨.slice (some ⟨g, i * k, none⟩) (l.length - i) (cap - i), fun W => ?_, .inr ⟨g, i * k, cap - i, by rw [List.length_drop], fun j u hu => ?_⟩, fun b hb => by simpa [Value.ownBlock] using hb⟩
      · simp [Instr.sliceAt, Instr.slice, run_underlying E.ut, Instr.sliceBounds, run_sliceBound, hs, Result.andThen, hi0, h2, hc, add_zero]
      · have e : (rowOf enc l)[i * k + j]? = some u := by
          conv => lhs; rw [← List.take_append_drop i l, rowOf_append]
          rw [List.getElem?_append_right (by omega), hl, Nat.add_sub_cancel_left]; exact hu
        refine hR.flat e ?_
        rw [← rowOf_len E.len]
        exact (List.getElem?_eq_some_iff.1 e).1

/-- append onto a slice of the call's own. W: the world in which the call began. -/
theorem run_append_new {t T : TypeId} {bytes : Nat} (E : Elem P t T enc k bytes) (ty : TypeId) {W w : World} (hW : Own [] W w) {v s : Value} {l l2 : List α} (hv : Sl T enc k W.heap.size w v l) (hs : Reads enc w s l2)
    (hlen : (l.length + l2.length) * bytes ≤ 140737488355328) (hmax : l.length + l2.length ≤ maxLen) :
    ∃ v' w', (Builtin.append_ #[t, t] ty #[v, s]).run P w = .ok v' w' ∧ Sl T enc k W.heap.size w' v' (l ++ l2) ∧ Own [] W w' ∧ (v' = .slice none 0 0 ↔ v = .slice none 0 0 ∧ l2 = []) ∧ (∀ g, v'.ownBlock = some g → v.ownBlock = some g ∨ w.heap.size ≤ g) := by
  obtain ⟨i, z, hi, hz, hsz, hby, hzs⟩ := E.info
  rcases hs with ⟨rfl, rfl⟩ | ⟨b, o, c, rfl, hs⟩
  · obtain ⟨a, cap, rfl⟩ := hv.sl
    have hcap : l.length ≤ cap := by
      rcases hv.form with ⟨h, rfl⟩ | ⟨g, cap', h, _, _, _, h1, _⟩
      · simp
      · cases h; exact h1
    refine ⟨_, w, run_append_nothing w _ t ty _ i E.ut hi a l.length cap hcap _ (Src.ofNil w E.ut 0), by simpa using hv, hW, by simp, fun g hg => .inl hg⟩
  · have hnews : ∀ j u, (rowOf enc l2)[j]? = some u → w.cell? ((⟨b, o, none⟩ : Addr).add j) = some u := fun j u hu => by
      have e : (⟨b, o, none⟩ : Addr).add j = ⟨b, o + j, none⟩ := by unfold Addr.add; split <;> simp_all
      rw [e]; exact hs j u hu
    obtain ⟨v', w', hr, h2, h3, h4, h5⟩ := run_append_own_at (P := P) w W.heap.size t ty T i z k bytes E.ut hi hz hsz hby hzs E.pos v l.length (rowOf enc l) hv ⟨b, o, none⟩ l2.length c (rowOf enc l2) (rowOf_len E.len l2) hnews (rowOf_one E.one l2) hmax hlen hW.size
    refine ⟨v', w', hr, ?_, hW.trans' (S' := v.ownBlock.toList) ⟨h3.os, h3.tape, h3.output, h3.size, fun q hq hn => h3.block q hq (by cases hb : v.ownBlock with | none => simp | some g => rw [hb] at hn; simpa using hn)⟩ ?_, ?_, ?_⟩
    · unfold Sl
      rw [List.length_append, rowOf_append]
      exact h2
    · intro x hx
      right
      cases hb : v.ownBlock with
      | none => rw [hb] at hx; simp at hx
      | some g => rw [hb] at hx; simp at hx; subst hx; exact (hv.block hb).1
    · rw [h4]
      constructor
      · rintro ⟨a, b⟩; exact ⟨a, List.eq_nil_of_length_eq_zero b⟩
      · rintro ⟨a, rfl⟩; exact ⟨a, rfl⟩
    · intro g hg
      rcases h5 with h5 | h5
      · exact .inl (h5 ▸ hg)
      · rw [h5] at hg; cases hg; exact .inr (Nat.le_refl _)
theorem wpList_append_new {ops : Array Oper} {rest : List Oper} {o : Oper} {a : Act} {Q : Exit → Act → World → Prop} (hgd : o.guard = none) (s x : Operand) {t T : TypeId} (ho : o.op = .call { callee := .builtin .append, args := #[s, x], argTypes := #[t, t] })
    {bytes : Nat} (E : Elem P t T enc k bytes) {W w : World} (hW : Own [] W w) {v sv : Value} {l l2 : List α} (hs : a.eval s = v) (hv : Sl T enc k W.heap.size w v l) (hx : a.eval x = sv) (hsv : Reads enc w sv l2)
    (hlen : (l.length + l2.length) * bytes ≤ 140737488355328) (hmax : l.length + l2.length ≤ maxLen)
    (h : ∀ v' w', Sl T enc k W.heap.size w' v' (l ++ l2) → Own [] W w' → (v' = .slice none 0 0 ↔ v = .slice none 0 0 ∧ l2 = []) → (∀ g, v'.ownBlock = some g → v.ownBlock = some g ∨ w.heap.size ≤ g) → wpList P ops Q rest (a.put o.dst v') w') :
    wpList P ops Q (o :: rest) a w := by
  refine wpList_plain hgd fun K hK => ?_
  obtain ⟨v', w', hr, h2, h3, h4, h5⟩ := run_append_new (P := P) E o.type hW hv hsv hlen hmax
  unfold Oper.wp execOp
  simp only [ho, resolve, invoke, builtin, Sem.run_bind, Sem.run_pure, Result.andThen_ok, List.map_toArray, List.map_cons, List.map_nil, hs, hx, hr]
  exact hK _ _ (h v' w' h2 h3 h4 h5)
/-- append onto a slice of the call's own. W: the world in which the call began. -/
theorem run_append_new2 {t T : TypeId} {bytes : Nat} (E : Elem P t T enc k bytes) (ty : TypeId) {W w : World} (hW : Own [] W w) {v s : Value} {l l2 : List α} (hv : Sl T enc k W.heap.size w v l) (hs : Reads enc w s l2)
    (hlen : (l.length + l2.length) * bytes ≤ 140737488355328) (hmax : l.length + l2.length ≤ maxLen) :
    ∃ v' w', (Builtin.append_ #[t, t] ty #[v, s]).run P w = .ok v' w' ∧ Sl T enc k W.heap.size w' v' (l ++ l2) ∧ Own [] W w' ∧ (v' = .slice none 0 0 ↔ v = .slice none 0 0 ∧ l2 = []) ∧ (∀ g, v'.ownBlock = some g → v.ownBlock = some g ∨ w.heap.size ≤ g) ∧ Own v.ownBlock.toList w w' := by
  obtain ⟨i, z, hi, hz, hsz, hby, hzs⟩ := E.info
  rcases hs with ⟨rfl, rfl⟩ | ⟨b, o, c, rfl, hs⟩
  · obtain ⟨a, cap, rfl⟩ := hv.sl
    have hcap : l.length ≤ cap := by
      rcases hv.form with ⟨h, rfl⟩ | ⟨g, cap', h, _, _, _, h1, _⟩
      · simp
      · cases h; exact h1
    refine ⟨_, w, run_append_nothing w _ t ty _ i E.ut hi a l.length cap hcap _ (Src.ofNil w E.ut 0), by simpa using hv, hW, by simp, fun g hg => .inl hg, Own.refl _ _⟩
  · have hnews : ∀ j u, (rowOf enc l2)[j]? = some u → w.cell? ((⟨b, o, none⟩ : Addr).add j) = some u := fun j u hu => by
      have e : (⟨b, o, none⟩ : Addr).add j = ⟨b, o + j, none⟩ := by unfold Addr.add; split <;> simp_all
      rw [e]; exact hs j u hu
    obtain ⟨v', w', hr, h2, h3, h4, h5⟩ := run_append_own_at (P := P) w W.heap.size t ty T i z k bytes E.ut hi hz hsz hby hzs E.pos v l.length (rowOf enc l) hv ⟨b, o, none⟩ l2.length c (rowOf enc l2) (rowOf_len E.len l2) hnews (rowOf_one E.one l2) hmax hlen hW.size
    have hOv : Own v.ownBlock.toList w w' := ⟨h3.os, h3.tape, h3.output, h3.size, fun q hq hn => h3.block q hq (by cases hb : v.ownBlock with | none => simp | some g => rw [hb] at hn; simpa using hn)⟩
    refine ⟨v', w', hr, ?_, hW.trans' (S' := v.ownBlock.toList) hOv ?_, ?_, ?_, hOv⟩
    · unfold Sl
      rw [List.length_append, rowOf_append]
      exact h2
    · intro x hx
      right
      cases hb : v.ownBlock with
      | none => rw [hb] at hx; simp at hx
      | some g => rw [hb] at hx; simp at hx; subst hx; exact (hv.block hb).1
    · rw [h4]
      constructor
      · rintro ⟨a, b⟩; exact ⟨a, List.eq_nil_of_length_eq_zero b⟩
      · rintro ⟨a, rfl⟩; exact ⟨a, rfl⟩
    · intro g hg
      rcases h5 with h5 | h5
      · exact .inl (h5 ▸ hg)
      · rw [h5] at hg; cases hg; exact .inr (Nat.le_refl _)
theorem wpList_append_new2 {ops : Array Oper} {rest : List Oper} {o : Oper} {a : Act} {Q : Exit → Act → World → Prop} (hgd : o.guard = none) (s x : Operand) {t T : TypeId} (ho : o.op = .call { callee := .builtin .append, args := #[s, x], argTypes := #[t, t] })
    {bytes : Nat} (E : Elem P t T enc k bytes) {W w : World} (hW : Own [] W w) {v sv : Value} {l l2 : List α} (hs : a.eval s = v) (hv : Sl T enc k W.heap.size w v l) (hx : a.eval x = sv) (hsv : Reads enc w sv l2)
    (hlen : (l.length + l2.length) * bytes ≤ 140737488355328) (hmax : l.length + l2.length ≤ maxLen)
    (h : ∀ v' w', Sl T enc k W.heap.size w' v' (l ++ l2) → Own [] W w' → (v' = .slice none 0 0 ↔ v = .slice none 0 0 ∧ l2 = []) → (∀ g, v'.ownBlock = some g → v.ownBlock = some g ∨ w.heap.size ≤ g) → Own v.ownBlock.toList w w' → wpList P ops Q rest (a.put o.dst v') w') :
    wpList P ops Q (o :: rest) a w := by
  refine wpList_plain hgd fun K hK => ?_
  obtain ⟨v', w', hr, h2, h3, h4, h5, h6⟩ := run_append_new2 (P := P) E o.type hW hv hsv hlen hmax
  unfold Oper.wp execOp
  simp only [ho, resolve, invoke, builtin, Sem.run_bind, Sem.run_pure, Result.andThen_ok, List.map_toArray, List.map_cons, List.map_nil, hs, hx, hr]
  exact hK _ _ (h v' w' h2 h3 h4 h5 h6)
theorem step_append_new {ops : Array Oper} {o : Oper} {a : Act} {K : Act → World → Prop} {Q : Exit → Act → World → Prop} {E : Prop} (hgd : o.guard = none) (s x : Operand) {t T : TypeId} (ho : o.op = .call { callee := .builtin .append, args := #[s, x], argTypes := #[t, t] })
    {bytes : Nat} (E1 : Elem P t T enc k bytes) {W w : World} (hW : Own [] W w) {v sv : Value} {l l2 : List α} (hs : a.eval s = v) (hv : Sl T enc k W.heap.size w v l) (hx : a.eval x = sv) (hsv : Reads enc w sv l2)
    (hlen : (l.length + l2.length) * bytes ≤ 140737488355328) (hmax : l.length + l2.length ≤ maxLen)
    (h : ∀ v' w', Sl T enc k W.heap.size w' v' (l ++ l2) → Own [] W w' → (v' = .slice none 0 0 ↔ v = .slice none 0 0 ∧ l2 = []) → (∀ g, v'.ownBlock = some g → v.ownBlock = some g ∨ w.heap.size ≤ g) → K (a.put o.dst v') w') :
    if Region.wanted o (yielded ops a.tmps) = true then Oper.wp P o a w K Q else E := by
  have hw : Region.wanted o (yielded ops a.tmps) = true := by simp [Region.wanted, hgd]
  rw [if_pos hw]
  obtain ⟨v', w', hr, h2, h3, h4, h5⟩ := run_append_new (P := P) E1 o.type hW hv hsv hlen hmax
  unfold Oper.wp execOp
  simp only [ho, resolve, invoke, builtin, Sem.run_bind, Sem.run_pure, Result.andThen_ok, List.map_toArray, List.map_cons, List.map_nil, hs, hx, hr]
  exact h v' w' h2 h3 h4 h5
/-- 's[..]' whose answer is known. -/
theorem wpList_slice_of {ops : Array Oper} {rest : List Oper} {o : Oper} {a : Act} {Q : Exit → Act → World → Prop} {w : World} (hgd : o.guard = none) (t : TypeId) (x : Operand) (lo hi mx : Option Operand) (ho : o.op = .slice t x lo hi mx)
    {vx v : Value} {vlo vhi vmx : Option Value} (hx : a.eval x = vx) (hlo : lo.map a.eval = vlo) (hhi : hi.map a.eval = vhi) (hmx : mx.map a.eval = vmx) (hr : ∀ W, (Instr.sliceAt t vx vlo vhi vmx).run P W = .ok v W)
    (h : wpList P ops Q rest (a.put o.dst v) w) : wpList P ops Q (o :: rest) a w := by
  refine wpList_plain hgd fun K hK => ?_
  unfold Oper.wp execOp
  simp only [ho, Sem.run_bind, Sem.run_pure, Result.andThen_ok, hx, hlo, hhi, hmx, hr]
  exact hK _ _ h

/-- One cell of one element is another. -/
theorem row_upd {T : TypeId} {w : World} {g cap : Nat} {l : List α} (h : Row T enc k w g cap l) (hk : ∀ x, (enc x).length = k) {i : Nat} {p x : α} (c : Nat) (u : Value) (hp : l[i]? = some p) (hx : ∀ j, j < k → (enc x)[j]? = if j = c then some u else (enc p)[j]?) (hc : c < k := by omega) :
    Row T enc k (w.setCell ⟨g, i * k + c, none⟩ u) g cap (l.set i x) := by
  obtain ⟨cur, hb, h1, h2, h3, h4⟩ := h
  have hi : i < l.length := (List.getElem?_eq_some_iff.1 hp).1
  refine ⟨_, heap_setCell_same _ _ _ _ _ _ hb, by simpa using h1, h2, by simp [h3], ?_⟩
  apply List.ext_getElem?
  intro t
  simp only [List.length_set]
  by_cases ht : t < l.length * k
  · have hk0 : 0 < k := by omega
    rw [List.getElem?_take_of_lt ht, Array.getElem?_toList, Array.getElem?_setIfInBounds]
    have hi1 : t / k < l.length := Nat.div_lt_of_lt_mul (by rwa [Nat.mul_comm])
    have hm : t % k < k := Nat.mod_lt _ hk0
    have hi2 : t / k < (l.set i x).length := by simpa using hi1
    have hold : cur[t]? = (enc l[t / k])[t % k]? := by
      have e := rowOf_get hk l (t / k) (t % k) l[t / k] (List.getElem?_eq_getElem hi1) hm
      rw [Nat.div_add_mod' t k, ← h4, List.getElem?_take_of_lt ht, Array.getElem?_toList] at e
      exact e
    have hnew := rowOf_get hk (l.set i x) (t / k) (t % k) (l.set i x)[t / k] (List.getElem?_eq_getElem hi2) hm
    rw [Nat.div_add_mod' t k] at hnew
    rw [hnew, List.getElem_set]
    have htc : t < cur.size := by rw [h3]; have := Nat.mul_le_mul_right k h1; omega
    have hdm := Nat.div_add_mod' t k
    by_cases hik : i = t / k
    · rw [if_pos hik, hx _ hm]
      have hpk : l[t / k] = p := by
        have hp' := hp
        rw [hik, List.getElem?_eq_getElem hi1] at hp'
        simpa using hp'
      by_cases htm : t % k = c
      · rw [if_pos htm, if_pos (by rw [hik, ← htm]; exact hdm), if_pos (by rw [hik, ← htm, hdm]; exact htc)]
      · rw [if_neg htm, if_neg (by rw [hik]; omega), hold, hpk]
    · rw [if_neg hik, if_neg ?_, hold]
      intro he
      apply hik
      rw [← he, Nat.mul_comm, Nat.mul_add_div hk0, Nat.div_eq_of_lt hc, Nat.add_zero]
  · rw [List.getElem?_eq_none (by simp; omega), List.getElem?_eq_none (by rw [rowOf_len hk]; simp; omega)]
end
end Go.Proofs.YtacbahmmmndmbaaGreatDoor
