/- Plain lemmas on worlds: what stays outside a list of blocks ('Own'); maps as lists ('MapS'); cells of a block. No program in sight. -/
import Derived.WalkKit
import Derived.WalkSpells
import Derived.WalkLawsBesides
import Derived.MapKept
import Derived.Lib.Hide
namespace Go.Proofs.YtacbahmmmndmbaaGreatDoor
open Go.RowKit

/-- Outside the blocks of S all that was there is as it was. -/
structure Own (S : List Nat) (w w' : World) : Prop where
  os : w'.os = w.os
  tape : w'.tape = w.tape
  output : w'.output = w.output
  size : w.heap.size ≤ w'.heap.size
  block : ∀ k, k < w.heap.size → k ∉ S → w'.heap[k]? = w.heap[k]?

theorem Own.refl (S : List Nat) (w : World) : Own S w w := ⟨rfl, rfl, rfl, Nat.le_refl _, fun _ _ _ => rfl⟩
theorem Own.trans' {S S' : List Nat} {a b c : World} (h : Own S a b) (k : Own S' b c) (hs : ∀ x ∈ S', x ∈ S ∨ a.heap.size ≤ x) : Own S a c :=
  ⟨k.os.trans h.os, k.tape.trans h.tape, k.output.trans h.output, Nat.le_trans h.size k.size, fun i hi hn =>
    (k.block i (Nat.lt_of_lt_of_le hi h.size) (fun hx => by rcases hs i hx with h1 | h1; exact hn h1; omega)).trans (h.block i hi hn)⟩
theorem Own.trans {S : List Nat} {a b c : World} (h : Own S a b) (k : Own S b c) : Own S a c := h.trans' k (fun _ hx => .inl hx)
theorem Own.weaken {S S' : List Nat} {a b : World} (h : Own S' a b) (hs : ∀ x ∈ S', x ∈ S ∨ a.heap.size ≤ x) : Own S a b :=
  (Own.refl S a).trans' h hs
theorem Own.mono {S S' : List Nat} {a b : World} (h : Own S' a b) (hs : ∀ x ∈ S', x ∈ S) : Own S a b := h.weaken (fun x hx => .inl (hs x hx))
theorem Own.nil {S : List Nat} {a b : World} (h : Own [] a b) : Own S a b := h.mono (by simp)
theorem Own.drew {S : List Nat} {a b : World} (h : Own S a b) : Own S a b.drew := ⟨h.os, h.tape, h.output, h.size, h.block⟩
theorem Own.drewN {S : List Nat} {a b : World} (h : Own S a b) (n : Nat) : Own S a (b.drewN n) := ⟨h.os, h.tape, h.output, h.size, h.block⟩
theorem Own.alloc {S : List Nat} {a b : World} (h : Own S a b) (o : Obj) : Own S a (b.alloc o) :=
  ⟨h.os, h.tape, h.output, by have := h.size; simp; omega, fun k hk hn => by rw [Below.heap_alloc _ _ _ (Nat.lt_of_lt_of_le hk h.size)]; exact h.block k hk hn⟩
theorem Own.setCell {S : List Nat} {a b : World} (h : Own S a b) {p : Addr} (hp : p.block ∈ S ∨ a.heap.size ≤ p.block) (u : Value) : Own S a (b.setCell p u) :=
  ⟨h.os, h.tape, h.output, by have := h.size; simp; omega, fun k hk hn => by
    rw [Below.heap_setCell _ _ _ _ (by rintro rfl; rcases hp with h1 | h1; exact hn h1; omega)]; exact h.block k hk hn⟩
theorem Own.setObj {S : List Nat} {a b : World} (h : Own S a b) {r : Nat} (hp : r ∈ S ∨ a.heap.size ≤ r) (o : Obj) : Own S a { b with heap := b.heap.setIfInBounds r o } :=
  ⟨h.os, h.tape, h.output, by have := h.size; simp; omega, fun k hk hn => by
    show (b.heap.setIfInBounds r o)[k]? = _
    rw [Array.getElem?_setIfInBounds_ne (by rintro rfl; rcases hp with h1 | h1; exact hn h1; omega)]; exact h.block k hk hn⟩
theorem Own.below {S : List Nat} {a b : World} (h : Own S a b) {B : Nat} (hB : B ≤ a.heap.size) (hs : ∀ x ∈ S, B ≤ x) : Below B a b :=
  ⟨h.os, h.tape, h.output, h.size, fun k hk => h.block k (Nat.lt_of_lt_of_le hk hB) (fun hx => by have := hs k hx; omega)⟩
theorem Own.of_below {B : Nat} {a b : World} (h : Below B a b) (hB : a.heap.size ≤ B) : Own [] a b :=
  ⟨h.os, h.tape, h.output, h.size, fun k hk _ => h.block k (Nat.lt_of_lt_of_le hk hB)⟩
theorem Own.cell {S : List Nat} {w w' : World} (h : Own S w w') {p : Addr} (hp : p.block < w.heap.size) (hn : p.block ∉ S) : w'.cell? p = w.cell? p :=
  World.cell?_of_block (w := w) (h.block p.block hp hn)

/-- A block that is there. -/
theorem lt_of_heap {w : World} {b : Nat} {o : Obj} (h : w.heap[b]? = some o) : b < w.heap.size := (Array.getElem?_eq_some_iff.1 h).1
theorem Own.heap {S : List Nat} {w w' : World} (h : Own S w w') {b : Nat} {o : Obj} (hb : w.heap[b]? = some o) (hn : b ∉ S) : w'.heap[b]? = some o :=
  (h.block b (lt_of_heap hb) hn).trans hb

theorem bytes_beq (a b : ByteArray) : (a == b) = (a.data == b.data) := rfl
instance : LawfulBEq ByteArray where
  eq_of_beq {a b} h := by
    rw [bytes_beq] at h
    cases a; cases b
    simpa using h
  rfl {a} := by rw [bytes_beq]; simp

/-- 'string([]byte{x, y})'. -/
theorem conv2 {P : Program} {src e dst : TypeId} (hs : P.underlying src = some (.slice e)) (he : P.underlying e = some (.int .u8)) (hd : P.underlying dst = some .string) (w : World) (x y : Int) (T : TypeId) :
    (convert src dst (.slice (some ⟨w.heap.size, 0, none⟩) 2 2)).run P (w.alloc (.cells #[.int .u8 x, .int .u8 y] T)) = .ok (.string (strOfNums [x, y])) (w.alloc (.cells #[.int .u8 x, .int .u8 y] T)) :=
  run_convert_bytes_arg _ src e hs he w.heap.size 0 2 2 [x, y] rfl (fun i hi => by
    match i, hi with
    | 0, _ => simp
    | 1, _ => simp) dst hd

/-! ### maps -/
section
variable {κ : Type} [BEq κ] {enc : κ → Value}
theorem findNow_of {d : TypeDesc} (hs : ∀ a b, Instr.sameNow d (enc a) (enc b) = some (a == b)) (k : κ) :
    ∀ (es : List MapEntry) (l : List (κ × Value)) (i : Nat), es.map (fun e => (e.key, e.val)) = l.map (fun p => (enc p.1, p.2)) →
      Instr.findNow d (enc k) es i = some ((l.findIdx? (fun p => k == p.1)).bind fun j => (l[j]?).map fun p => (i + j, p.2))
  | [], l, i, h => by
    cases l with
    | nil => simp [Instr.findNow]
    | cons p r => simp at h
  | e :: es, l, i, h => by
    cases l with
    | nil => simp at h
    | cons p r =>
      simp only [List.map_cons, List.cons.injEq, Prod.mk.injEq] at h
      obtain ⟨⟨h1, h2⟩, h3⟩ := h
      simp only [Instr.findNow, h1, hs]
      cases hkp : (k == p.1)
      · rw [findNow_of hs k es r (i + 1) h3]
        simp only [List.findIdx?_cons, hkp, Option.some.injEq]
        cases hf : r.findIdx? (fun p => k == p.1) with
        | none => simp
        | some j => simp [Nat.add_assoc, Nat.add_comm 1 j]
      · simp [List.findIdx?_cons, hkp, h2]

theorem find_of_same {P : Program} {kt : TypeId} {d : TypeDesc} (hd : P.underlying kt = some d) (hs : ∀ a b, Instr.sameNow d (enc a) (enc b) = some (a == b)) (w : World) (k : κ) (l : List (κ × Value)) (es : List MapEntry)
    (h : es.map (fun e => (e.key, e.val)) = l.map (fun p => (enc p.1, p.2))) : (Instr.findKey kt (enc k) es).run P w = .ok ((l.findIdx? (fun p => k == p.1)).bind fun j => (l[j]?).map fun p => (j, p.2)) w := by
  have := findNow_of hs k es l 0 h
  simp only [Nat.zero_add] at this
  exact MapKept.run_findKey hd this
end
/-- A kind of keys: how one stands in memory; that two are held against each other at once. -/
structure KeyKind (P : Program) (kt : TypeId) {κ : Type} [BEq κ] (enc : κ → Value) : Prop where
  find : ∀ (w : World) (k : κ) (l : List (κ × Value)) (es : List MapEntry), es.map (fun e => (e.key, e.val)) = l.map (fun p => (enc p.1, p.2)) →
    (Instr.findKey kt (enc k) es).run P w = .ok ((l.findIdx? (fun p => k == p.1)).bind fun j => (l[j]?).map fun p => (j, p.2)) w
  check : ∀ (w : World) (em : Bool) (a : κ), (Instr.checkKey em 10000 kt (enc a)).run P w = .ok () w
  inj : ∀ a b, enc a = enc b → a = b
  stays : ∀ (w : World) (a : κ), (Instr.keyThatStays (enc a) (enc a)).run P w = .ok (enc a) w

theorem string_kind {P : Program} {kt : TypeId} (h : P.underlying kt = some .string) : KeyKind P kt Value.string where
  find := find_of_same h fun a b => rfl
  check w em a := MapKept.run_checkKey h (k := .string a) (by simp [MapKept.IsKey]) em 9999
  inj a b h := by cases h; rfl
  stays w a := MapKept.run_keyThatStays (d := .string) (by simp [MapKept.IsKey])
theorem int_kind {P : Program} {kt : TypeId} {k : IntKind} (h : P.underlying kt = some (.int k)) : KeyKind P kt (Value.int k) where
  find := find_of_same h fun a b => by simp [Instr.sameNow]
  check w em a := MapKept.run_checkKey h (k := .int k a) (by simp [MapKept.IsKey]) em 9999
  inj a b h := by cases h; rfl
  stays w a := MapKept.run_keyThatStays (d := .int k) (by simp [MapKept.IsKey])


section
variable {κ : Type} {enc : κ → Value}
/-- Block m of w is a map that holds just the entries of l, in the order in which their keys came. -/
def MapS (enc : κ → Value) (w : World) (m : Nat) (l : List (κ × Value)) : Prop :=
  ∃ es clock, w.heap[m]? = some (.map es clock) ∧ es.toList.map (fun e => (e.key, e.val)) = l.map (fun p => (enc p.1, p.2)) ∧ MapKept.Stamped es clock

theorem MapS.len {w : World} {m : Nat} {l : List (κ × Value)} (h : MapS enc w m l) : ∃ es clock, w.heap[m]? = some (.map es clock) ∧ es.size = l.length := by
  obtain ⟨es, clock, hb, hl, _⟩ := h
  exact ⟨es, clock, hb, by have := congrArg List.length hl; simpa using this⟩
theorem MapS.len_run {P : Program} {kt e t : TypeId} {w : World} {m : Nat} {l : List (κ × Value)} (h : MapS enc w m l) (ht : P.underlying t = some (.map kt e)) (ty : TypeId) :
    (Builtin.len_ #[t] ty #[.map (some m)]).run P w = .ok (.int .i64 l.length) w := by
  obtain ⟨es, clock, hb, hl⟩ := h.len
  simp [Builtin.len_, run_underlying ht, MapKept.run_getObj_map hb, goInt, Result.andThen, hl]
theorem MapS.made (w : World) : MapS enc (w.alloc (.map #[] 0)) w.heap.size [] := ⟨#[], 0, heap_alloc_new w _, rfl, MapKept.stamped_empty 0⟩
theorem MapS.lt {w : World} {m : Nat} {l : List (κ × Value)} (h : MapS enc w m l) : m < w.heap.size := by
  obtain ⟨es, clock, hb, hl⟩ := h
  exact lt_of_heap hb
theorem MapS.own {S : List Nat} {w w' : World} {m : Nat} {l : List (κ × Value)} (h : MapS enc w m l) (ho : Own S w w') (hn : m ∉ S) : MapS enc w' m l := by
  obtain ⟨es, clock, hb, hl⟩ := h
  exact ⟨es, clock, ho.heap hb hn, hl⟩
theorem MapS.of_heap {w w' : World} {m : Nat} {l : List (κ × Value)} (h : MapS enc w m l) (he : w'.heap[m]? = w.heap[m]?) : MapS enc w' m l := by
  obtain ⟨es, clock, hb, hl⟩ := h
  exact ⟨es, clock, he.trans hb, hl⟩
end
section
variable {κ : Type} [BEq κ] {enc : κ → Value}
variable {P : Program} {kt : TypeId}
theorem run_findKey_S (K : KeyKind P kt enc) {w : World} {l : List (κ × Value)} {es : Array MapEntry}
    (h : es.toList.map (fun e => (e.key, e.val)) = l.map (fun p => (enc p.1, p.2))) (k : κ) :
    (Instr.findKey kt (enc k) es.toList).run P w = .ok ((l.findIdx? (fun p => k == p.1)).bind fun j => (l[j]?).map fun p => (j, p.2)) w := by
  exact K.find w k l es.toList h

end
section
variable {P : Program} {kt : TypeId} {κ : Type} [BEq κ] [LawfulBEq κ] {enc : κ → Value}
/-- What a key leads to. -/
def aGet {α : Type} (l : List (κ × α)) (k : κ) : Option α := (l.find? (fun p => p.1 == k)).map (·.2)
/-- A key is given a value. -/
def aPut {α : Type} : List (κ × α) → κ → α → List (κ × α)
  | [], k, v => [(k, v)]
  | p :: r, k, v => if p.1 == k then (k, v) :: r else p :: aPut r k v

theorem findIdx_get {α : Type} (l : List (κ × α)) (k : κ) : aGet l k = (l.findIdx? (fun p => k == p.1)).bind fun j => (l[j]?).map (·.2) := by
  induction l with
  | nil => rfl
  | cons p r ih =>
    unfold aGet at ih ⊢
    simp only [List.find?_cons, List.findIdx?_cons]
    by_cases h : p.1 = k
    · subst h; simp
    · have h1 : (p.1 == k) = false := by simpa using h
      have h2 : (k == p.1) = false := by simpa using fun e => h e.symm
      simp only [h1, h2, ih]
      cases hf : r.findIdx? (fun p => k == p.1) with
      | none => simp
      | some j => simp

/-- 'm[k]', 'v, ok := m[k]'. -/
theorem MapS.lookup_yes {w : World} {m : Nat} {l : List (κ × Value)} (h : MapS enc w m l) (K : KeyKind P kt enc) {t e : TypeId} (ht : P.underlying t = some (.map kt e)) (k : κ) {v : Value}
    (hg : aGet l k = some v) (c : Bool) : (Instr.lookup t (.map (some m)) (enc k) c).run P w = .ok (if c then .tuple #[v, .bool true] else v) w := by
  obtain ⟨es, clock, hb, hl, _⟩ := h
  rw [findIdx_get] at hg
  obtain ⟨j, hj, hg⟩ := Option.bind_eq_some_iff.1 hg
  obtain ⟨p, hp, rfl⟩ := Option.map_eq_some_iff.1 hg
  have hr := run_findKey_S (w := w) K hl k
  rw [hj] at hr
  simp only [Option.bind_some, hp, Option.map_some] at hr
  simp [Instr.lookup, run_underlying ht, MapKept.run_getObj_map hb, K.check, hr, Result.andThen]
theorem MapS.lookup_no {w : World} {m : Nat} {l : List (κ × Value)} (h : MapS enc w m l) (K : KeyKind P kt enc) {t e : TypeId} (ht : P.underlying t = some (.map kt e)) (k : κ) {z : Value}
    (hz : (zeroValue e).run P w = .ok z w) (hg : aGet l k = none) (c : Bool) : (Instr.lookup t (.map (some m)) (enc k) c).run P w = .ok (if c then .tuple #[z, .bool false] else z) w := by
  obtain ⟨es, clock, hb, hl, _⟩ := h
  rw [findIdx_get] at hg
  have hr := run_findKey_S (w := w) K hl k
  have hn : (l.findIdx? (fun p => k == p.1)).bind (fun j => (l[j]?).map fun p => (j, p.2)) = none := by
    cases hj : l.findIdx? (fun p => k == p.1) with
    | none => rfl
    | some j =>
      rw [hj] at hg
      simp only [Option.bind_some, Option.map_eq_none_iff] at hg
      simp [hg]
  rw [hn] at hr
  simp [Instr.lookup, run_underlying ht, MapKept.run_getObj_map hb, K.check, hr, hz, Result.andThen]

theorem aPut_some {α : Type} {l : List (κ × α)} {k : κ} {j : Nat} (v : α) (h : l.findIdx? (fun p => k == p.1) = some j) : aPut l k v = l.set j (k, v) := by
  induction l generalizing j with
  | nil => simp at h
  | cons p r ih =>
    simp only [List.findIdx?_cons] at h
    by_cases hk : p.1 = k
    · subst hk
      simp at h
      subst h
      simp [aPut]
    · have h1 : (p.1 == k) = false := by simpa using hk
      have h2 : (k == p.1) = false := by simpa using fun e => hk e.symm
      simp only [h2] at h
      cases hf : r.findIdx? (fun p => k == p.1) with
      | none => simp [hf] at h
      | some i =>
        simp [hf] at h
        subst h
        simp [aPut, h1, ih hf]
theorem aPut_none {α : Type} {l : List (κ × α)} {k : κ} (v : α) (h : l.findIdx? (fun p => k == p.1) = none) : aPut l k v = l ++ [(k, v)] := by
  induction l with
  | nil => rfl
  | cons p r ih =>
    simp only [List.findIdx?_cons] at h
    by_cases hk : p.1 = k
    · subst hk; simp at h
    · have h1 : (p.1 == k) = false := by simpa using hk
      have h2 : (k == p.1) = false := by simpa using fun e => hk e.symm
      simp only [h2] at h
      cases hf : r.findIdx? (fun p => k == p.1) with
      | none => simp [aPut, h1, ih hf]
      | some i => simp [hf] at h

/-- 'm[k] = v'. -/
theorem MapS.update {w : World} {m : Nat} {l : List (κ × Value)} (h : MapS enc w m l) (K : KeyKind P kt enc) {t e : TypeId} (ht : P.underlying t = some (.map kt e)) (k : κ) (v : Value) :
    ∃ w1, (Instr.mapUpdate t (.map (some m)) (enc k) v).run P w = .ok () w1 ∧ MapS enc w1 m (aPut l k v) ∧ Own [m] w w1 ∧ w1.heap.size = w.heap.size := by
  obtain ⟨es, clock, hb, hl, hst⟩ := h
  have hlt := lt_of_heap hb
  have hr := run_findKey_S (w := w) K hl k
  have hset : ∀ o, ({ w with heap := w.heap.setIfInBounds m o } : World).heap[m]? = some o := fun o => by
    show (w.heap.setIfInBounds m o)[m]? = _
    simp [hlt]
  cases hj : l.findIdx? (fun p => k == p.1) with
  | none =>
    rw [hj] at hr
    refine ⟨{ w with heap := w.heap.setIfInBounds m (.map (es.push ⟨enc k, v, clock⟩) (clock + 1)) }, ?_, ⟨_, _, hset _, ?_, MapKept.stamped_push hst ?_⟩, (Own.refl _ _).setObj (by simp) _, by simp⟩
    · simp [Instr.mapUpdate, run_underlying ht, MapKept.run_getObj_map hb, MapKept.run_setObj_map _ hb, K.check, hr, Result.andThen]
    · rw [aPut_none v hj]; simp [hl]
    · intro x hx e
      have hx' := List.mem_map_of_mem (f := fun e : MapEntry => (e.key, e.val)) hx
      rw [hl] at hx'
      obtain ⟨p, hp, he⟩ := List.mem_map.1 hx'
      have := K.inj _ _ ((Prod.mk.inj he).1.trans e)
      have h2 := List.findIdx?_eq_none_iff.1 hj p hp
      rw [this] at h2
      simp at h2
  | some j =>
    obtain ⟨hjl, hjk, _⟩ := List.findIdx?_eq_some_iff_getElem.1 hj
    have hjp : l[j]? = some l[j] := List.getElem?_eq_getElem hjl
    have hlen : es.size = l.length := by have := congrArg List.length hl; simpa using this
    have hje : es[j]? = some es[j] := Array.getElem?_eq_getElem (by omega)
    have hkey : es[j].key = enc k := by
      have := congrArg (fun q => q[j]?) hl
      simp only [List.getElem?_map, hjp, Option.map_some, Array.getElem?_toList, hje, Option.some.injEq, Prod.mk.injEq] at this
      rw [this.1, LawfulBEq.eq_of_beq hjk]
    rw [hj] at hr
    simp only [Option.bind_some, hjp, Option.map_some] at hr
    refine ⟨{ w with heap := w.heap.setIfInBounds m (.map (es.modify j fun e => { e with key := enc k, val := v }) clock) }, ?_, ⟨_, _, hset _, ?_, MapKept.stamped_modify hst j _ (fun _ _ => rfl) (fun e _ he => by rw [hje] at he; cases he; exact hkey.symm)⟩, (Own.refl _ _).setObj (by simp) _, by simp⟩
    · simp [Instr.mapUpdate, run_underlying ht, MapKept.run_getObj_map hb, MapKept.run_setObj_map _ hb, K.check, hr, Result.andThen, hje, hkey, K.stays]
    · rw [aPut_some v hj]
      apply List.ext_getElem?
      intro i
      have hi := congrArg (fun q => q[i]?) hl
      simp only [List.getElem?_map, Array.getElem?_toList] at hi
      simp only [List.getElem?_map, Array.getElem?_toList, Array.getElem?_modify, List.getElem?_set]
      by_cases hij : j = i
      · subst hij
        simp [hje, hjl]
      · simp [hij, hi]

end
end Go.Proofs.YtacbahmmmndmbaaGreatDoor
