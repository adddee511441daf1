/- The hosts' table of package host: what each of its calls does to it. -/
import Derived.Test.YtnodacfhkgkliaaRows
import Derived.Test.YtnodacfhkgkliaaBase
namespace Go.Proofs.Ytnodacfhkgkliaa
open Go.RowKit

/-! ### plain -/
abbrev HSt := List (ByteArray × Bool)
def upB : List UInt8 := [79, 78, 76, 73, 78, 69]
def downB : List UInt8 := [79, 70, 70, 76, 73, 78, 69]
def hFind (st : HSt) (n : ByteArray) : Option Nat := st.findIdx? (fun p => n == p.1)
def hPut (st : HSt) (n : ByteArray) (on : Bool) : Int × HSt :=
  match hFind st n with
  | some i => (1, st.set i (n, on))
  | none => if 4 ≤ st.length then (8, st) else (1, st ++ [(n, on)])
def hTake (st : HSt) (n t : ByteArray) : Int × HSt :=
  if n.toList = [] then (7, st)
  else if t.toList = upB then hPut st n true
  else if t.toList = downB then hPut st n false
  else (3, st)
def hIdx (st : HSt) : List (ByteArray × Value) := st.zipIdx.map fun p => (p.1.1, Value.int .i64 p.2)
def hAt (st : HSt) (i : Nat) : ByteArray × Bool := st.getD i (ByteArray.empty, false)

theorem hIdx_len (st : HSt) : (hIdx st).length = st.length := by simp [hIdx]
theorem hIdx_get (st : HSt) (i : Nat) : (hIdx st)[i]? = (st[i]?).map fun p => (p.1, Value.int .i64 i) := by
  simp [hIdx, List.getElem?_zipIdx, Function.comp_def]
theorem hIdx_find (st : HSt) (n : ByteArray) : (hIdx st).findIdx? (fun p => n == p.1) = hFind st n := by
  have h : ∀ (l : HSt) (k : Nat), (l.zipIdx k).findIdx? ((fun p : ByteArray × Value => n == p.1) ∘ fun p => (p.1.1, Value.int .i64 p.2)) = l.findIdx? (fun p => n == p.1) := by
    intro l
    induction l with
    | nil => intro k; rfl
    | cons p r ih => intro k; simp only [List.zipIdx_cons, List.findIdx?_cons, ih, Function.comp]
  unfold hIdx hFind
  rw [List.findIdx?_map, h]
theorem hFind_lt {st : HSt} {n : ByteArray} {i : Nat} (h : hFind st n = some i) : i < st.length := (List.findIdx?_eq_some_iff_getElem.1 h).1
theorem hFind_name {st : HSt} {n : ByteArray} {i : Nat} (h : hFind st n = some i) : (hAt st i).1 = n := by
  obtain ⟨hl, hk, _⟩ := List.findIdx?_eq_some_iff_getElem.1 h
  simp only [hAt, List.getD, List.getElem?_eq_getElem hl, Option.getD_some]
  exact (LawfulBEq.eq_of_beq hk).symm
theorem hIdx_get_some {st : HSt} {n : ByteArray} {i : Nat} (h : hFind st n = some i) : aGet (hIdx st) n = some (.int .i64 i) := by
  rw [findIdx_get, hIdx_find, h]
  simp [hIdx_get, List.getElem?_eq_getElem (hFind_lt h)]
theorem hIdx_get_none {st : HSt} {n : ByteArray} (h : hFind st n = none) : aGet (hIdx st) n = none := by
  rw [findIdx_get, hIdx_find, h]; rfl
theorem hIdx_set {st : HSt} {n : ByteArray} {i : Nat} (h : hFind st n = some i) (on : Bool) : hIdx (st.set i (n, on)) = hIdx st := by
  have hn := hFind_name h
  have hl := hFind_lt h
  simp only [hAt, List.getD, List.getElem?_eq_getElem hl, Option.getD_some] at hn
  apply List.ext_getElem?
  intro j
  simp only [hIdx_get, List.getElem?_set]
  by_cases hj : i = j
  · subst hj; simp [hl, hn]
  · simp [hj]
theorem hIdx_push {st : HSt} {n : ByteArray} (h : hFind st n = none) (on : Bool) : hIdx (st ++ [(n, on)]) = aPut (hIdx st) n (.int .i64 st.length) := by
  rw [aPut_none _ (by rw [hIdx_find]; exact h)]
  simp [hIdx, List.zipIdx_append]

/-! ### in memory -/
structure Host (w : World) (b m : Nat) (st : HSt) : Prop where
  ne : b ≠ m
  len : st.length ≤ 4
  row : ∃ c, w.heap[b]? = some (.cells c 44 (0, 0)) ∧ c.size = 9 ∧ c[8]? = some (.map (some m)) ∧ ∀ i, i < 4 → c[2 * i]? = some (.string (hAt st i).1) ∧ c[2 * i + 1]? = some (.bool (hAt st i).2)
  map : MapS Value.string w m (hIdx st)

theorem Host.own {S : List Nat} {w w' : World} {b m : Nat} {st : HSt} (h : Host w b m st) (ho : Own S w w') (hb : b ∉ S) (hm : m ∉ S) : Host w' b m st := by
  obtain ⟨h1, h2, ⟨c, h3, h4⟩, h5⟩ := h
  exact ⟨h1, h2, ⟨c, ho.heap h3 hb, h4⟩, h5.own ho hm⟩
theorem Host.lt {w : World} {b m : Nat} {st : HSt} (h : Host w b m st) : b < w.heap.size ∧ m < w.heap.size := by
  obtain ⟨h1, h2, ⟨c, h3, h4⟩, h5⟩ := h
  exact ⟨lt_of_heap h3, h5.lt⟩
theorem Host.drew {w : World} {b m : Nat} {st : HSt} (h : Host w b m st) : Host w.drew b m st := h.own (S := []) (Own.refl _ _).drew (by simp) (by simp)

/-- One entry is written: the world that a store of two cells leaves. -/
theorem Host.put {w : World} {b m : Nat} {st : HSt} (h : Host w b m st) {i : Nat} {n : ByteArray} {on : Bool} (hf : hFind st n = some i) :
    Host ((w.setCell ⟨b, i * 2, none⟩ (.string n)).setCell ⟨b, i * 2 + 1, none⟩ (.bool on)) b m (st.set i (n, on)) := by
  obtain ⟨h1, h2, ⟨c, h3, h4, h5, h6⟩, h7⟩ := h
  have hi := hFind_lt hf
  refine ⟨h1, by simpa using h2, ⟨_, heap_setCell_same _ _ _ _ _ _ (heap_setCell_same _ _ _ _ _ _ h3), by simp [h4], ?_, ?_⟩, ?_⟩
  · simp only [Array.getElem?_setIfInBounds]; rw [if_neg (by omega), if_neg (by omega)]; exact h5
  · intro j hj
    simp only [Array.getElem?_setIfInBounds, Array.size_setIfInBounds, h4]
    by_cases hij : i = j
    · subst hij
      rw [if_neg (by omega), if_pos (by omega), if_pos (by omega), if_pos (by omega), if_pos (by omega)]
      simp [hAt, List.getD, hi]
    · rw [if_neg (by omega), if_neg (by omega), if_neg (by omega), if_neg (by omega)]
      have := h6 j hj
      simpa [hAt, List.getD, List.getElem?_set, hij] using this
  · rw [hIdx_set hf]
    exact h7.of_heap (by rw [heap_setCell_other _ _ _ _ (by simpa using Ne.symm h1), heap_setCell_other _ _ _ _ (by simpa using Ne.symm h1)])

/-- A new entry. -/
theorem Host.push {w w1 : World} {b m : Nat} {st : HSt} (h : Host w b m st) {n : ByteArray} {on : Bool} (hf : hFind st n = none) (hl : st.length < 4) (ho : Own [m] w w1)
    (hm : MapS Value.string w1 m (aPut (hIdx st) n (.int .i64 st.length))) :
    Host ((w1.setCell ⟨b, st.length * 2, none⟩ (.string n)).setCell ⟨b, st.length * 2 + 1, none⟩ (.bool on)) b m (st ++ [(n, on)]) := by
  obtain ⟨h1, h2, ⟨c, h3, h4, h5, h6⟩, h7⟩ := h
  refine ⟨h1, by simp; omega, ⟨_, heap_setCell_same _ _ _ _ _ _ (heap_setCell_same _ _ _ _ _ _ (ho.heap h3 (by simpa using h1))), by simp [h4], ?_, ?_⟩, ?_⟩
  · simp only [Array.getElem?_setIfInBounds]; rw [if_neg (by omega), if_neg (by omega)]; exact h5
  · intro j hj
    simp only [Array.getElem?_setIfInBounds, Array.size_setIfInBounds, h4]
    by_cases hij : st.length = j
    · subst hij
      rw [if_neg (by omega), if_pos (by omega), if_pos (by omega), if_pos (by omega), if_pos (by omega)]
      simp [hAt, List.getD]
    · rw [if_neg (by omega), if_neg (by omega), if_neg (by omega), if_neg (by omega)]
      have := h6 j hj
      by_cases hj2 : j < st.length
      · simpa [hAt, List.getD, List.getElem?_append_left hj2] using this
      · simpa [hAt, List.getD, List.getElem?_eq_none (show st.length ≤ j by omega), List.getElem?_eq_none (show (st ++ [(n, on)]).length ≤ j by simp; omega)] using this
  · rw [hIdx_push hf]
    exact hm.of_heap (by rw [heap_setCell_other _ _ _ _ (by simpa using Ne.symm h1), heap_setCell_other _ _ _ _ (by simpa using Ne.symm h1)])

/-! ### the walks -/
theorem none_no (b : Nat) (m : Nat) (w : World) (hm : w.cell? ⟨b, 8, none⟩ = some (.map (some m))) :
    Calls Try.prog 14 #[.pointer (some ⟨b, 0, none⟩)] w fun e w' => e = .returned (.bool false) ∧ w = w' := by
  have hq := fun w r => run_eql_map_nil w 42 9 3 r Try.underlying42
  go_enter Try.func14, Try.ntmps14
  go_wp2
  go_ret
  exact ⟨rfl, rfl⟩

def TakePost (w : World) (b m : Nat) (r : Int × HSt) (e : Ending) (w' : World) : Prop :=
  e = .returned (.int .i64 r.1) ∧ Host w' b m r.2 ∧ Own [b, m] w w'

theorem take_bad (b m : Nat) (st : HSt) (w : World) (n t : ByteArray) (h : Host w b m st) (hx : n.toList = [] ∨ (n.toList ≠ [] ∧ t.toList ≠ upB ∧ t.toList ≠ downB)) :
    Calls Try.prog 8 #[.pointer (some ⟨b, 0, none⟩), .string n, .string t] w (TakePost w b m (hTake st n t)) := by
  obtain ⟨c, h3, h4, h5, h6⟩ := h.row
  have hm : w.cell? ⟨b, 8, none⟩ = some (.map (some m)) := (cell_of_row w b 8 c _ _ h3).trans h5
  rcases hx with hx | ⟨hn, hu, hd⟩
  · have hr : hTake st n t = (7, st) := by simp [hTake, hx]
    have hr' := Lib.hid hr
    clear hr
    have hP := Lib.hid h
    clear h h3 h4 h5 h6
    have hb : n.toList.isEmpty = true := by simp [hx]
    clear hx
    go_enter Try.func8, Try.ntmps8
    go_wp2_with ((go_at_call 14; refine (none_no _ _ _ hm).mono ?_; rintro e w' ⟨rfl, rfl⟩))
    go_ret
    rw [hr'.out]
    exact ⟨rfl, hP.out, Own.refl _ _⟩
  · have hr : hTake st n t = (3, st) := by simp [hTake, hn, hu, hd]
    have hr' := Lib.hid hr
    clear hr
    have hP := Lib.hid h
    clear h h3 h4 h5 h6
    have hb : n.toList.isEmpty = false := by simpa using hn
    have hu' : (t.toList == [79, 78, 76, 73, 78, 69]) = false := by simpa [upB] using hu
    have hd' : (t.toList == [79, 70, 70, 76, 73, 78, 69]) = false := by simpa [downB] using hd
    clear hn hu hd
    go_enter Try.func8, Try.ntmps8
    go_wp2_with ((go_at_call 14; refine (none_no _ _ _ hm).mono ?_; rintro e w' ⟨rfl, rfl⟩))
    go_ret
    rw [hr'.out]
    exact ⟨rfl, hP.out, Own.refl _ _⟩

theorem zero_int (w : World) : (zeroValue 3).run Try.prog w = .ok (.int .i64 0) w := by kernel_rfl

theorem take_hit (b m : Nat) (st : HSt) (w : World) (n t : ByteArray) (h : Host w b m st) (hn : n.toList ≠ []) (on : Bool) (hu : (t.toList == upB) = on) (hd : on = false → (t.toList == downB) = true)
    (i : Nat) (hf : hFind st n = some i) :
    Calls Try.prog 8 #[.pointer (some ⟨b, 0, none⟩), .string n, .string t] w (TakePost w b m (1, st.set i (n, on))) := by
  obtain ⟨c, h3, h4, h5, h6⟩ := h.row
  have hm : w.cell? ⟨b, 8, none⟩ = some (.map (some m)) := (cell_of_row w b 8 c _ _ h3).trans h5
  have hi := hFind_lt hf
  have hi4 : i < 4 := Nat.lt_of_lt_of_le hi h.len
  have hc0 : w.cell? ⟨b, i * 2, none⟩ = some (.string (hAt st i).1) := (cell_of_row w b _ c _ _ h3).trans (by rw [Nat.mul_comm]; exact (h6 i hi4).1)
  have hc1 : w.cell? ⟨b, i * 2 + 1, none⟩ = some (.bool (hAt st i).2) := (cell_of_row w b _ c _ _ h3).trans (by rw [Nat.mul_comm]; exact (h6 i hi4).2)
  have hf0 : w.frozen? ⟨b, i * 2, none⟩ = false := frozen_of_row w b _ c _ h3
  have hf1 : w.frozen? ⟨b, i * 2 + 1, none⟩ = false := frozen_of_row w b _ c _ h3
  have hlk := h.map.lookup_yes (string_kind Try.underlying9) Try.underlying42 n (hIdx_get_some hf) true
  simp only [if_true] at hlk
  have hP := Lib.hid (And.intro h hf)
  clear h h3 h4 h5 h6 hf hi
  have hb : n.toList.isEmpty = false := by simpa using hn
  clear hn
  cases on
  · have hu' : (t.toList == [79, 78, 76, 73, 78, 69]) = false := by simpa [upB] using hu
    have hd' : (t.toList == [79, 70, 70, 76, 73, 78, 69]) = true := by simpa [downB] using hd rfl
    clear hu hd
    go_enter Try.func8, Try.ntmps8
    go_wp2_with ((go_at_call 14; refine (none_no _ _ _ hm).mono ?_; rintro e w' ⟨rfl, rfl⟩))
    go_ret
    exact ⟨rfl, hP.out.1.put hP.out.2, ((Own.refl _ _).setCell (by simp) _).setCell (by simp) _⟩
  · have hu' : (t.toList == [79, 78, 76, 73, 78, 69]) = true := by simpa [upB] using hu
    clear hu hd
    go_enter Try.func8, Try.ntmps8
    go_wp2_with ((go_at_call 14; refine (none_no _ _ _ hm).mono ?_; rintro e w' ⟨rfl, rfl⟩))
    go_ret
    exact ⟨rfl, hP.out.1.put hP.out.2, ((Own.refl _ _).setCell (by simp) _).setCell (by simp) _⟩

theorem take_miss (b m : Nat) (st : HSt) (w : World) (n t : ByteArray) (h : Host w b m st) (hn : n.toList ≠ []) (on : Bool) (hu : (t.toList == upB) = on) (hd : on = false → (t.toList == downB) = true)
    (hf : hFind st n = none) (hl : st.length < 4) :
    Calls Try.prog 8 #[.pointer (some ⟨b, 0, none⟩), .string n, .string t] w (TakePost w b m (1, st ++ [(n, on)])) := by
  obtain ⟨c, h3, h4, h5, h6⟩ := h.row
  have hne := h.ne
  have hm : w.cell? ⟨b, 8, none⟩ = some (.map (some m)) := (cell_of_row w b 8 c _ _ h3).trans h5
  have hlk := h.map.lookup_no (string_kind Try.underlying9) Try.underlying42 n (zero_int w) (hIdx_get_none hf) true
  simp only [if_true] at hlk
  have hlen := h.map.len_run Try.underlying42
  rw [hIdx_len] at hlen
  obtain ⟨w1, hup, hms, ho, hs1⟩ := h.map.update (string_kind Try.underlying9) Try.underlying42 n (.int .i64 st.length)
  have hb1 := ho.heap h3 (by simpa using hne)
  have hc0 : w1.cell? ⟨b, st.length * 2, none⟩ = some (.string (hAt st st.length).1) := (cell_of_row w1 b _ c _ _ hb1).trans (by rw [Nat.mul_comm]; exact (h6 _ hl).1)
  have hc1 : w1.cell? ⟨b, st.length * 2 + 1, none⟩ = some (.bool (hAt st st.length).2) := (cell_of_row w1 b _ c _ _ hb1).trans (by rw [Nat.mul_comm]; exact (h6 _ hl).2)
  have hf0 : w1.frozen? ⟨b, st.length * 2, none⟩ = false := frozen_of_row w1 b _ c _ hb1
  have hf1 : w1.frozen? ⟨b, st.length * 2 + 1, none⟩ = false := frozen_of_row w1 b _ c _ hb1
  have hP := Lib.hid (And.intro (h.push hf hl ho hms (on := on)) (show Own [b, m] w w1 from ho.mono (by simp)))
  clear h h3 h4 h5 h6 hf hms ho hs1 hb1 hne
  have hb : n.toList.isEmpty = false := by simpa using hn
  clear hn
  cases on
  · have hu' : (t.toList == [79, 78, 76, 73, 78, 69]) = false := by simpa [upB] using hu
    have hd' : (t.toList == [79, 70, 70, 76, 73, 78, 69]) = true := by simpa [downB] using hd rfl
    clear hu hd
    go_enter Try.func8, Try.ntmps8
    go_wp2_with ((go_at_call 14; refine (none_no _ _ _ hm).mono ?_; rintro e w' ⟨rfl, rfl⟩))
    go_ret
    exact ⟨rfl, hP.out.1, (hP.out.2.setCell (by simp) _).setCell (by simp) _⟩
  · have hu' : (t.toList == [79, 78, 76, 73, 78, 69]) = true := by simpa [upB] using hu
    clear hu hd
    go_enter Try.func8, Try.ntmps8
    go_wp2_with ((go_at_call 14; refine (none_no _ _ _ hm).mono ?_; rintro e w' ⟨rfl, rfl⟩))
    go_ret
    exact ⟨rfl, hP.out.1, (hP.out.2.setCell (by simp) _).setCell (by simp) _⟩

theorem take_full (b m : Nat) (st : HSt) (w : World) (n t : ByteArray) (h : Host w b m st) (hn : n.toList ≠ []) (on : Bool) (hu : (t.toList == upB) = on) (hd : on = false → (t.toList == downB) = true)
    (hf : hFind st n = none) (hl : 4 ≤ st.length) :
    Calls Try.prog 8 #[.pointer (some ⟨b, 0, none⟩), .string n, .string t] w (TakePost w b m (8, st)) := by
  obtain ⟨c, h3, h4, h5, h6⟩ := h.row
  have hm : w.cell? ⟨b, 8, none⟩ = some (.map (some m)) := (cell_of_row w b 8 c _ _ h3).trans h5
  have hlk := h.map.lookup_no (string_kind Try.underlying9) Try.underlying42 n (zero_int w) (hIdx_get_none hf) true
  simp only [if_true] at hlk
  have hlen := h.map.len_run Try.underlying42
  rw [hIdx_len] at hlen
  have hP := Lib.hid h
  clear h h3 h4 h5 h6 hf
  have hb : n.toList.isEmpty = false := by simpa using hn
  clear hn
  cases on
  · have hu' : (t.toList == [79, 78, 76, 73, 78, 69]) = false := by simpa [upB] using hu
    have hd' : (t.toList == [79, 70, 70, 76, 73, 78, 69]) = true := by simpa [downB] using hd rfl
    clear hu hd
    go_enter Try.func8, Try.ntmps8
    go_wp2_with ((go_at_call 14; refine (none_no _ _ _ hm).mono ?_; rintro e w' ⟨rfl, rfl⟩))
    go_ret
    exact ⟨rfl, hP.out, Own.refl _ _⟩
  · have hu' : (t.toList == [79, 78, 76, 73, 78, 69]) = true := by simpa [upB] using hu
    clear hu hd
    go_enter Try.func8, Try.ntmps8
    go_wp2_with ((go_at_call 14; refine (none_no _ _ _ hm).mono ?_; rintro e w' ⟨rfl, rfl⟩))
    go_ret
    exact ⟨rfl, hP.out, Own.refl _ _⟩

theorem take_put (b m : Nat) (st : HSt) (w : World) (n t : ByteArray) (h : Host w b m st) (hn : n.toList ≠ []) (on : Bool) (hu : (t.toList == upB) = on) (hd : on = false → (t.toList == downB) = true) :
    Calls Try.prog 8 #[.pointer (some ⟨b, 0, none⟩), .string n, .string t] w (TakePost w b m (hPut st n on)) := by
  unfold hPut
  cases hf : hFind st n with
  | some i => exact take_hit b m st w n t h hn on hu hd i hf
  | none =>
    by_cases hl : 4 ≤ st.length
    · simp only [hl, if_true]
      exact take_full b m st w n t h hn on hu hd hf hl
    · simp only [hl, if_false]
      exact take_miss b m st w n t h hn on hu hd hf (by omega)

/-- 'Take'. -/
theorem take_any (b m : Nat) (st : HSt) (w : World) (n t : ByteArray) (h : Host w b m st) :
    Calls Try.prog 8 #[.pointer (some ⟨b, 0, none⟩), .string n, .string t] w (TakePost w b m (hTake st n t)) := by
  by_cases h1 : n.toList = []
  · exact take_bad b m st w n t h (.inl h1)
  · by_cases h2 : t.toList = upB
    · have e : hTake st n t = hPut st n true := by simp [hTake, h1, h2]
      rw [e]
      exact take_put b m st w n t h h1 true (by simp [h2]) (by simp)
    · by_cases h3 : t.toList = downB
      · have e : hTake st n t = hPut st n false := by simp only [hTake, if_neg h1, if_neg h2, if_pos h3]
        rw [e]
        exact take_put b m st w n t h h1 false (by simpa using h2) (by simp [h3])
      · exact take_bad b m st w n t h (.inr ⟨h1, h2, h3⟩)

theorem take_eq {b m : Nat} {st : HSt} {n t : ByteArray} {r : Int × HSt} (e : hTake st n t = r) (w : World) (h : Host w b m st) :
    Calls Try.prog 8 #[.pointer (some ⟨b, 0, none⟩), .string n, .string t] w (TakePost w b m r) := e ▸ take_any b m st w n t h

/-! ### Online, Len, New -/
def hOn (st : HSt) (n : ByteArray) : Bool × Bool :=
  match hFind st n with
  | some i => ((hAt st i).2, true)
  | none => (false, false)
theorem online_any (b m : Nat) (st : HSt) (w : World) (n : ByteArray) (h : Host w b m st) :
    Calls Try.prog 9 #[.pointer (some ⟨b, 0, none⟩), .string n] w fun e w' => e = .returned (.tuple #[.bool (hOn st n).1, .bool (hOn st n).2]) ∧ w = w' := by
  obtain ⟨c, h3, h4, h5, h6⟩ := h.row
  have hm : w.cell? ⟨b, 8, none⟩ = some (.map (some m)) := (cell_of_row w b 8 c _ _ h3).trans h5
  unfold hOn
  cases hf : hFind st n with
  | some i =>
    have hi := hFind_lt hf
    have hi4 : i < 4 := Nat.lt_of_lt_of_le hi h.len
    have hc1 : w.cell? ⟨b, i * 2 + 1, none⟩ = some (.bool (hAt st i).2) := (cell_of_row w b _ c _ _ h3).trans (by rw [Nat.mul_comm]; exact (h6 i hi4).2)
    have hlk := h.map.lookup_yes (string_kind Try.underlying9) Try.underlying42 n (hIdx_get_some hf) true
    simp only [if_true] at hlk
    clear h h3 h4 h5 h6 hf hi
    go_enter Try.func9, Try.ntmps9
    go_wp2_with ((go_at_call 14; refine (none_no _ _ _ hm).mono ?_; rintro e w' ⟨rfl, rfl⟩))
    go_ret2
    exact ⟨rfl, rfl⟩
  | none =>
    have hlk := h.map.lookup_no (string_kind Try.underlying9) Try.underlying42 n (zero_int w) (hIdx_get_none hf) true
    simp only [if_true] at hlk
    clear h h3 h4 h5 h6 hf
    go_enter Try.func9, Try.ntmps9
    go_wp2_with ((go_at_call 14; refine (none_no _ _ _ hm).mono ?_; rintro e w' ⟨rfl, rfl⟩))
    go_ret2
    exact ⟨rfl, rfl⟩
theorem online_eq {b m : Nat} {st : HSt} {n : ByteArray} {r : Bool × Bool} (he : hOn st n = r) (w : World) (h : Host w b m st) :
    Calls Try.prog 9 #[.pointer (some ⟨b, 0, none⟩), .string n] w fun e w' => e = .returned (.tuple #[.bool r.1, .bool r.2]) ∧ w = w' := he ▸ online_any b m st w n h
theorem len_any (b m : Nat) (st : HSt) (w : World) (h : Host w b m st) :
    Calls Try.prog 11 #[.pointer (some ⟨b, 0, none⟩)] w fun e w' => e = .returned (.int .i64 st.length) ∧ w = w' := by
  obtain ⟨c, h3, h4, h5, h6⟩ := h.row
  have hm : w.cell? ⟨b, 8, none⟩ = some (.map (some m)) := (cell_of_row w b 8 c _ _ h3).trans h5
  have hlen := h.map.len_run Try.underlying42
  rw [hIdx_len] at hlen
  clear h h3 h4 h5 h6
  go_enter Try.func11, Try.ntmps11
  go_wp2_with ((go_at_call 14; refine (none_no _ _ _ hm).mono ?_; rintro e w' ⟨rfl, rfl⟩))
  go_ret
  exact ⟨rfl, rfl⟩
def NewPost (w : World) (e : Ending) (w' : World) : Prop := ∃ b m, e = .returned (.pointer (some ⟨b, 0, none⟩)) ∧ Host w' b m [] ∧ w.heap.size ≤ b ∧ w.heap.size ≤ m ∧ Own [] w w'
theorem new_any (w : World) : Calls Try.prog 7 #[] w (NewPost w) := by
  have hmm := @run_makeMap Try.prog
  go_enter Try.func7, Try.ntmps7
  go_wp2
  go_ret
  refine ⟨w.heap.size + 1, w.heap.size, rfl, ⟨by omega, by simp, ⟨_, heap_alloc2_new _ _ _, rfl, rfl, ?_⟩, ?_⟩, by omega, Nat.le_refl _, ((Own.refl _ _).alloc _).alloc _⟩
  · intro i hi
    match i, hi with
    | 0, _ => exact ⟨rfl, rfl⟩
    | 1, _ => exact ⟨rfl, rfl⟩
    | 2, _ => exact ⟨rfl, rfl⟩
    | 3, _ => exact ⟨rfl, rfl⟩
  · exact (MapS.made w).of_heap (by rw [Below.heap_alloc _ _ _ (by simp)])

end Go.Proofs.Ytnodacfhkgkliaa
