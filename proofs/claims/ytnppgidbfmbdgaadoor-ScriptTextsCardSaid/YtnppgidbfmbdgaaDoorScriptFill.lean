/- Scripts (chapter 40): the event of a kind's words: the program's. -/
import Derived.Test.YtnppgidbfmbdgaaDoorScriptSplit
import Derived.Test.YtnppgidbfmbdgaaDoorScriptRaw2
import Derived.Test.YtnppgidbfmbdgaaDoorScriptNum2
import Derived.Test.YtnppgidbfmbdgaaDoorScriptPrint
set_option linter.unusedSimpArgs false
set_option linter.unusedVariables false
namespace Go.Proofs.YtnppgidbfmbdgaaDoor
open Go.RowKit

/-- An event. -/
structure Ev where
  k : Int
  c : Int
  n : Int
  d : ByteArray
def Ev.val (e : Ev) : Value := .agg #[.int .i64 e.k, .int .i64 e.c, .int .i64 e.n, .string e.d]
def Ev.zero : Ev := ⟨0, 0, 0, ⟨#[]⟩⟩
/-- The event of a kind's words. -/
def scFill (k : Int) (l : List ByteArray) : Option Ev :=
  if k = 1 then match l with
    | [a, b] => match scNum a, scRaw b with
      | some n, some d => some ⟨1, n, 0, ⟨d.toArray⟩⟩
      | _, _ => none
    | _ => none
  else match l with
    | [a] => match scNum a with
      | some n => some (if k = 3 then ⟨k, 0, n, ⟨#[]⟩⟩ else ⟨k, n, 0, ⟨#[]⟩⟩)
      | none => none
    | _ => none
def FillP (o : Option Ev) (e : Ending) : Prop := ∃ (x : Ev) (b : Bool), e = .returned (.tuple #[x.val, .bool b]) ∧ o = if b then some x else none
/-- A block of four cells: what a store asks. -/
theorem fz4 {w : World} {b : Nat} {x0 x1 x2 x3 : Value} {T : TypeId} (h : w.heap[b]? = some (.cells #[x0, x1, x2, x3] T (0, 0))) :
    w.frozen? ⟨b, 0, none⟩ = false ∧ w.frozen? ⟨b, 1, none⟩ = false ∧ w.frozen? ⟨b, 2, none⟩ = false ∧ w.frozen? ⟨b, 3, none⟩ = false ∧ b < w.heap.size :=
  ⟨frozen_of_row w b 0 _ _ h, frozen_of_row w b 1 _ _ h, frozen_of_row w b 2 _ _ h, frozen_of_row w b 3 _ _ h, lt_of_heap h⟩
/-- Four stores fill a block of four cells. -/
theorem set4 {w : World} {b : Nat} {x0 x1 x2 x3 : Value} {T : TypeId} (h : w.heap[b]? = some (.cells #[x0, x1, x2, x3] T (0, 0))) (u0 u1 u2 u3 : Value) :
    ((((w.setCell ⟨b, 0, none⟩ u0).setCell ⟨b, 1, none⟩ u1).setCell ⟨b, 2, none⟩ u2).setCell ⟨b, 3, none⟩ u3).heap[b]? = some (.cells #[u0, u1, u2, u3] T (0, 0)) := by
  have h1 := heap_setCell_same w b 0 _ T u0 h
  have h2 := heap_setCell_same _ b 1 _ T u1 h1
  have h3 := heap_setCell_same _ b 2 _ T u2 h2
  have h4 := heap_setCell_same _ b 3 _ T u3 h3
  simpa using h4
theorem own4 {w w' : World} (h : Own [] w w') {b : Nat} (hb : w.heap.size ≤ b) (u0 u1 u2 u3 : Value) :
    Own [] w ((((w'.setCell ⟨b, 0, none⟩ u0).setCell ⟨b, 1, none⟩ u1).setCell ⟨b, 2, none⟩ u2).setCell ⟨b, 3, none⟩ u3) :=
  (((h.setCell (.inr hb) _).setCell (.inr hb) _).setCell (.inr hb) _).setCell (.inr hb) _
theorem rawP_none {e : Ending} (h : RawP none e) : e = .returned (.tuple #[.string ⟨#[]⟩, .bool false]) := h
theorem rawP_some {l : List UInt8} {e : Ending} (h : RawP (some l) e) : e = .returned (.tuple #[.string ⟨l.toArray⟩, .bool true]) := h
theorem fillP_mk {o : Option Ev} (k c n : Int) (d : ByteArray) (b : Bool) (h : o = if b then some ⟨k, c, n, d⟩ else none) : FillP o (.returned (.tuple #[.agg #[.int .i64 k, .int .i64 c, .int .i64 n, .string d], .bool b])) := ⟨⟨k, c, n, d⟩, b, rfl, h⟩
/-- The fourth kind's end: what was stored is what is returned. -/
theorem fillP_num {o : Option Ev} {a : ByteArray} {nn : Int} {bb : Bool} {f : Int → Ev} (e : o = match scNum a with | some n => some (f n) | none => none) (hb : bb = (scNum a).isSome) (hn : ∀ m : Nat, scNum a = some m → nn = m) : o = if bb then some (f nn) else none := by
  cases h : scNum a with
  | none => rw [h] at e hb; subst hb; simpa using e
  | some m => rw [h] at e hb; subst hb; rw [hn m h]; simpa using e
set_option maxRecDepth 100000 in
set_option maxHeartbeats 4000000 in
theorem fill_any (k : Int) (a : ByteArray) (r : List ByteArray) (v : Value) (w : World) (hk : 0 ≤ k ∧ k ≤ 4) (hR : Reads wEnc w v (a :: r)) (hr : ∀ x ∈ r, x.size ≤ 140737488351232) (hl : r.length ≤ 1000000) :
    Calls Tryd.prog 23 #[.int .i64 k, .int .i64 (scWhat k), v] w fun e w' => FillP (scFill k (a :: r)) e ∧ Own [] w w' := by
  obtain ⟨av, cv, rfl⟩ := hR.form
  obtain ⟨b, o, rfl, hC⟩ := hR.at_ wEnc_len (by simp)
  have c0 : w.cell? ⟨b, o, none⟩ = some (.string a) := by simpa using hC 0 a 0 (.string a) rfl rfl
  have hO1 : Own [] w (w.alloc (.cells #[.int .i64 0, .int .i64 0, .int .i64 0, .string ⟨#[]⟩] 23)) := (Own.refl _ _).alloc _
  have c1 : (w.alloc (.cells #[.int .i64 0, .int .i64 0, .int .i64 0, .string ⟨#[]⟩] 23)).cell? ⟨b, o, none⟩ = some (.string a) := (hO1.cell (block_lt_of_cell c0) (by simp)).trans c0
  have hl0 : (a :: r).length = r.length + 1 := rfl
  rw [hl0]
  have cN := Lib.hid (fun W => number_any a W)
  have hO1' := Lib.hid hO1
  have hbk := Lib.hid (heap_alloc_new w (.cells #[.int .i64 0, .int .i64 0, .int .i64 0, .string ⟨#[]⟩] 23))
  by_cases h1 : k = 1
  · have q2 : (scWhat k == 2) = true := by subst h1; rfl
    have q1 : (scWhat k == 1) = false := by subst h1; rfl
    match r, hC, hR, hr, hl, hl0 with
    | [], hC, hR, hr, hl, hl0 =>
      have e1 : scFill k [a] = none := by unfold scFill; rw [if_pos h1]
      rw [e1]
      clear e1 hC hR c0 hl0 hO1 h1 hr
      go_enter Tryd.func23, Tryd.ntmps23
      go_wp2_with (go_at_call 34; ((with_reducible refine (cN.out _).mono ?_); rintro e w2 ⟨⟨nn, bb, rfl, hb, hn⟩, hO2⟩; have hb2 := hO2.heap hbk.out (by simp); obtain ⟨f0, f1, f2, f3⟩ := blk4 hb2; obtain ⟨z0, z1, z2, z3, z4⟩ := fz4 hb2; replace hb2 := Lib.hid hb2; replace hb := Lib.hid hb; replace hn := Lib.hid hn; replace hO2 := Lib.hid (hO1'.out.trans hO2)))
      have hW := set4 hb2.out (.int .i64 0) (.int .i64 0) (.int .i64 0) (.string ⟨#[]⟩)
      obtain ⟨g0, g1, g2, g3⟩ := blk4 (((Own.refl [] _).alloc (.cells #[.int .i64 k, .int .i64 0, .int .i64 0, .string ⟨#[]⟩] 23)).heap hW (by simp))
      refine bodyPost_ret (v := .tuple #[.agg #[.int .i64 0, .int .i64 0, .int .i64 0, .string ⟨#[]⟩], .bool false]) (by simp [results, Tryd.results23, go_sem, g0, g1, g2, g3]; try rfl) rfl ⟨fillP_mk _ _ _ _ _ rfl, (own4 hO2.out (Nat.le_refl _) _ _ _ _).alloc _⟩
    | x :: y :: l, hC, hR, hr, hl, hl0 =>
      have e1 : scFill k (a :: x :: y :: l) = none := by unfold scFill; rw [if_pos h1]
      rw [e1]
      have q3 : ((((x :: y :: l).length : Nat) : Int) + 1 == 2) = false := by simp; omega
      obtain ⟨N, hN⟩ : ∃ N, (x :: y :: l).length = N := ⟨_, rfl⟩
      rw [hN] at q3 ⊢
      clear e1 hC hR c0 hl0 hO1 h1 hr hN hl
      go_enter Tryd.func23, Tryd.ntmps23
      go_wp2_with (go_at_call 34; ((with_reducible refine (cN.out _).mono ?_); rintro e w2 ⟨⟨nn, bb, rfl, hb, hn⟩, hO2⟩; have hb2 := hO2.heap hbk.out (by simp); obtain ⟨f0, f1, f2, f3⟩ := blk4 hb2; obtain ⟨z0, z1, z2, z3, z4⟩ := fz4 hb2; replace hb2 := Lib.hid hb2; replace hb := Lib.hid hb; replace hn := Lib.hid hn; replace hO2 := Lib.hid (hO1'.out.trans hO2)))
      have hW := set4 hb2.out (.int .i64 0) (.int .i64 0) (.int .i64 0) (.string ⟨#[]⟩)
      obtain ⟨g0, g1, g2, g3⟩ := blk4 (((Own.refl [] _).alloc (.cells #[.int .i64 k, .int .i64 0, .int .i64 0, .string ⟨#[]⟩] 23)).heap hW (by simp))
      refine bodyPost_ret (v := .tuple #[.agg #[.int .i64 0, .int .i64 0, .int .i64 0, .string ⟨#[]⟩], .bool false]) (by simp [results, Tryd.results23, go_sem, g0, g1, g2, g3]; try rfl) rfl ⟨fillP_mk _ _ _ _ _ rfl, (own4 hO2.out (Nat.le_refl _) _ _ _ _).alloc _⟩
    | [x], hC, hR, hr, hl, hl0 =>
      have d0 : w.cell? ⟨b, o + 1, none⟩ = some (.string x) := by simpa using hC 1 x 0 (.string x) rfl rfl
      have c2 : (w.alloc (.cells #[.int .i64 0, .int .i64 0, .int .i64 0, .string ⟨#[]⟩] 23)).cell? ⟨b, o + 1, none⟩ = some (.string x) := (hO1.cell (block_lt_of_cell d0) (by simp)).trans d0
      have cR := fun W => raw_any x (hr x (by simp)) W
      have e1 : scFill k [a, x] = match scRaw x with | some d => (match scNum a with | some n => some ((fun m => (⟨k, m, 0, ⟨d.toArray⟩⟩ : Ev)) (n : Int)) | none => none) | none => none := by
        unfold scFill; rw [if_pos h1]
        cases h4 : scNum a <;> cases h5 : scRaw x <;> simp [h4, h5, h1]
      obtain ⟨oo, ho⟩ : ∃ oo, scFill k [a, x] = oo := ⟨_, rfl⟩
      rw [ho] at e1 ⊢
      cases hx : scRaw x with
      | none =>
        rw [hx] at e1 cR
        replace cR := Lib.hid cR
        replace e1 : oo = none := e1
        subst e1
        clear ho hC hR c0 hl0 hO1 h1 hr hx d0
        go_enter Tryd.func23, Tryd.ntmps23
        go_wp2_with (first
          | (go_at_call 34; ((with_reducible refine (cN.out _).mono ?_); rintro e w2 ⟨⟨nn, bb, rfl, hb, hn⟩, hO2⟩; have hb2 := hO2.heap hbk.out (by simp); obtain ⟨f0, f1, f2, f3⟩ := blk4 hb2; obtain ⟨z0, z1, z2, z3, z4⟩ := fz4 hb2; have c3 := (hO2.cell (block_lt_of_cell c2) (by simp)).trans c2; have z5 := block_lt_of_cell c3; have hbt := Lib.hid (heap_alloc_new w2 (.cells #[.int .i64 k, .int .i64 0, .int .i64 0, .string ⟨#[]⟩] 23)); have hbu := Lib.hid (((Own.refl [] w2).alloc (.cells #[.int .i64 k, .int .i64 0, .int .i64 0, .string ⟨#[]⟩] 23)).heap hb2 (by simp)); have hO5 := Lib.hid (((hO1'.out.trans hO2).alloc (.cells #[.int .i64 k, .int .i64 0, .int .i64 0, .string ⟨#[]⟩] 23))); replace hb := Lib.hid hb; replace hn := Lib.hid hn; replace hO2 := Lib.hid (hO1'.out.trans hO2)))
          | (go_at_call 35; ((with_reducible refine (cR.out _).mono ?_); rintro e w5 ⟨he, hO6⟩; obtain rfl := rawP_none he; have hb5 := hO6.heap hbt.out (by simp); have hb6 := hO6.heap hbu.out (by simp); obtain ⟨y0, y1, y2, y3⟩ := blk4 hb5; obtain ⟨x0, x1, x2, x3, x4⟩ := fz4 hb5; obtain ⟨t0, t1, t2, t3⟩ := blk4 hb6; obtain ⟨s0, s1, s2, s3, s4⟩ := fz4 hb6; replace hb5 := Lib.hid hb5; replace hb6 := Lib.hid hb6; replace hO6 := Lib.hid (hO5.out.trans hO6); clear f0 f1 f2 f3 z0 z1 z2 z3)))
        all_goals
          have hb7 := (((Own.refl [w2.heap.size] w5).setCell (p := ⟨w2.heap.size, 1, none⟩) (.inl (by simp)) (.int .i64 nn)).setCell (p := ⟨w2.heap.size, 3, none⟩) (.inl (by simp)) (.string ⟨#[]⟩)).heap hb6.out (by simp; omega)
          have hO7 := (hO6.out.setCell (p := ⟨w2.heap.size, 1, none⟩) (.inr (show w.heap.size ≤ w2.heap.size by omega)) (.int .i64 nn)).setCell (p := ⟨w2.heap.size, 3, none⟩) (.inr (show w.heap.size ≤ w2.heap.size by omega)) (.string ⟨#[]⟩)
          have hW := set4 hb7 (.int .i64 k) (.int .i64 nn) (.int .i64 0) (.string ⟨#[]⟩)
          obtain ⟨g0, g1, g2, g3⟩ := blk4 hW
          refine bodyPost_ret (v := .tuple #[.agg #[.int .i64 k, .int .i64 nn, .int .i64 0, .string ⟨#[]⟩], .bool _]) (by simp [results, Tryd.results23, go_sem, g0, g1, g2, g3]; try rfl) rfl ⟨?_, own4 hO7 (Nat.le_refl _) _ _ _ _⟩
          exact fillP_mk _ _ _ _ _ rfl
      | some d =>
        rw [hx] at e1 cR
        replace cR := Lib.hid cR
        cases hsn : scNum a with
        | none =>
          rw [hsn] at e1 cN
          replace e1 : oo = none := e1
          subst e1
          clear ho hC hR c0 hl0 hO1 h1 hr hx d0 hsn
          go_enter Tryd.func23, Tryd.ntmps23
          go_wp2_with (first
            | (go_at_call 34; ((with_reducible refine (cN.out _).mono ?_); rintro e w2 ⟨⟨nn, bb, rfl, hb, hn⟩, hO2⟩; have hb2 := hO2.heap hbk.out (by simp); obtain ⟨f0, f1, f2, f3⟩ := blk4 hb2; obtain ⟨z0, z1, z2, z3, z4⟩ := fz4 hb2; have c3 := (hO2.cell (block_lt_of_cell c2) (by simp)).trans c2; have z5 := block_lt_of_cell c3; have hbt := Lib.hid (heap_alloc_new w2 (.cells #[.int .i64 k, .int .i64 0, .int .i64 0, .string ⟨#[]⟩] 23)); have hbu := Lib.hid (((Own.refl [] w2).alloc (.cells #[.int .i64 k, .int .i64 0, .int .i64 0, .string ⟨#[]⟩] 23)).heap hb2 (by simp)); have hO5 := Lib.hid (((hO1'.out.trans hO2).alloc (.cells #[.int .i64 k, .int .i64 0, .int .i64 0, .string ⟨#[]⟩] 23))); obtain rfl : bb = false := hb; clear hn; replace hO2 := Lib.hid (hO1'.out.trans hO2)))
            | (go_at_call 35; ((with_reducible refine (cR.out _).mono ?_); rintro e w5 ⟨he, hO6⟩; obtain rfl := rawP_some he; have hb5 := hO6.heap hbt.out (by simp); have hb6 := hO6.heap hbu.out (by simp); obtain ⟨y0, y1, y2, y3⟩ := blk4 hb5; obtain ⟨x0, x1, x2, x3, x4⟩ := fz4 hb5; obtain ⟨t0, t1, t2, t3⟩ := blk4 hb6; obtain ⟨s0, s1, s2, s3, s4⟩ := fz4 hb6; replace hb5 := Lib.hid hb5; replace hb6 := Lib.hid hb6; replace hO6 := Lib.hid (hO5.out.trans hO6); clear f0 f1 f2 f3 z0 z1 z2 z3)))
          have hb7 := (((Own.refl [w2.heap.size] w5).setCell (p := ⟨w2.heap.size, 1, none⟩) (.inl (by simp)) (.int .i64 nn)).setCell (p := ⟨w2.heap.size, 3, none⟩) (.inl (by simp)) (.string ⟨d.toArray⟩)).heap hb6.out (by simp; omega)
          have hO7 := (hO6.out.setCell (p := ⟨w2.heap.size, 1, none⟩) (.inr (show w.heap.size ≤ w2.heap.size by omega)) (.int .i64 nn)).setCell (p := ⟨w2.heap.size, 3, none⟩) (.inr (show w.heap.size ≤ w2.heap.size by omega)) (.string ⟨d.toArray⟩)
          have hW := set4 hb7 (.int .i64 k) (.int .i64 nn) (.int .i64 0) (.string ⟨d.toArray⟩)
          obtain ⟨g0, g1, g2, g3⟩ := blk4 hW
          refine bodyPost_ret (v := .tuple #[.agg #[.int .i64 k, .int .i64 nn, .int .i64 0, .string ⟨d.toArray⟩], .bool false]) (by simp [results, Tryd.results23, go_sem, g0, g1, g2, g3]; try rfl) rfl ⟨fillP_mk _ _ _ _ _ rfl, own4 hO7 (Nat.le_refl _) _ _ _ _⟩
        | some m =>
          rw [hsn] at e1 cN
          replace e1 : oo = some ⟨k, m, 0, ⟨d.toArray⟩⟩ := e1
          subst e1
          clear ho hC hR c0 hl0 hO1 h1 hr hx d0 hsn
          go_enter Tryd.func23, Tryd.ntmps23
          go_wp2_with (first
            | (go_at_call 34; ((with_reducible refine (cN.out _).mono ?_); rintro e w2 ⟨⟨nn, bb, rfl, hb, hn⟩, hO2⟩; have hb2 := hO2.heap hbk.out (by simp); obtain ⟨f0, f1, f2, f3⟩ := blk4 hb2; obtain ⟨z0, z1, z2, z3, z4⟩ := fz4 hb2; have c3 := (hO2.cell (block_lt_of_cell c2) (by simp)).trans c2; have z5 := block_lt_of_cell c3; have hbt := Lib.hid (heap_alloc_new w2 (.cells #[.int .i64 k, .int .i64 0, .int .i64 0, .string ⟨#[]⟩] 23)); have hbu := Lib.hid (((Own.refl [] w2).alloc (.cells #[.int .i64 k, .int .i64 0, .int .i64 0, .string ⟨#[]⟩] 23)).heap hb2 (by simp)); have hO5 := Lib.hid (((hO1'.out.trans hO2).alloc (.cells #[.int .i64 k, .int .i64 0, .int .i64 0, .string ⟨#[]⟩] 23))); obtain rfl : bb = true := hb; obtain rfl := hn m rfl; clear hn; replace hO2 := Lib.hid (hO1'.out.trans hO2)))
            | (go_at_call 35; ((with_reducible refine (cR.out _).mono ?_); rintro e w5 ⟨he, hO6⟩; obtain rfl := rawP_some he; have hb5 := hO6.heap hbt.out (by simp); have hb6 := hO6.heap hbu.out (by simp); obtain ⟨y0, y1, y2, y3⟩ := blk4 hb5; obtain ⟨x0, x1, x2, x3, x4⟩ := fz4 hb5; obtain ⟨t0, t1, t2, t3⟩ := blk4 hb6; obtain ⟨s0, s1, s2, s3, s4⟩ := fz4 hb6; replace hb5 := Lib.hid hb5; replace hb6 := Lib.hid hb6; replace hO6 := Lib.hid (hO5.out.trans hO6); clear f0 f1 f2 f3 z0 z1 z2 z3)))
          have hb7 := (((Own.refl [w2.heap.size] w5).setCell (p := ⟨w2.heap.size, 1, none⟩) (.inl (by simp)) (.int .i64 m)).setCell (p := ⟨w2.heap.size, 3, none⟩) (.inl (by simp)) (.string ⟨d.toArray⟩)).heap hb6.out (by simp; omega)
          have hO7 := (hO6.out.setCell (p := ⟨w2.heap.size, 1, none⟩) (.inr (show w.heap.size ≤ w2.heap.size by omega)) (.int .i64 m)).setCell (p := ⟨w2.heap.size, 3, none⟩) (.inr (show w.heap.size ≤ w2.heap.size by omega)) (.string ⟨d.toArray⟩)
          have hW := set4 hb7 (.int .i64 k) (.int .i64 m) (.int .i64 0) (.string ⟨d.toArray⟩)
          obtain ⟨g0, g1, g2, g3⟩ := blk4 hW
          refine bodyPost_ret (v := .tuple #[.agg #[.int .i64 k, .int .i64 m, .int .i64 0, .string ⟨d.toArray⟩], .bool true]) (by simp [results, Tryd.results23, go_sem, g0, g1, g2, g3]; try rfl) rfl ⟨fillP_mk _ _ _ _ _ rfl, own4 hO7 (Nat.le_refl _) _ _ _ _⟩
  · have q2 : (scWhat k == 2) = false := by
      rcases sc_split k with h | h | h | h | h | h
      · exact absurd hk h
      · exact absurd h h1
      all_goals subst h; rfl
    by_cases h3 : k = 3
    · have q1 : (scWhat k == 1) = true := by subst h3; rfl
      by_cases hlr : r = []
      · subst hlr
        have e1 : scFill k [a] = match scNum a with | some n => some ((fun x => (⟨k, 0, x, ⟨#[]⟩⟩ : Ev)) (n : Int)) | none => none := by unfold scFill; rw [if_neg h1]; simp only [if_pos h3]
        obtain ⟨oo, ho⟩ : ∃ oo, scFill k [a] = oo := ⟨_, rfl⟩
        rw [ho]
        rw [ho] at e1
        replace e1 := Lib.hid e1
        clear ho hC hR c0 hl0 hO1 h1 h3 hr
        go_enter Tryd.func23, Tryd.ntmps23
        go_wp2_with (go_at_call 34; ((with_reducible refine (cN.out _).mono ?_); rintro e w2 ⟨⟨nn, bb, rfl, hb, hn⟩, hO2⟩; have hb2 := hO2.heap hbk.out (by simp); obtain ⟨f0, f1, f2, f3⟩ := blk4 hb2; obtain ⟨z0, z1, z2, z3, z4⟩ := fz4 hb2; replace hb2 := Lib.hid hb2; replace hb := Lib.hid hb; replace hn := Lib.hid hn; replace hO2 := Lib.hid (hO1'.out.trans hO2)))
        all_goals
          have hz := fillP_num (f := fun x => (⟨k, 0, x, ⟨#[]⟩⟩ : Ev)) e1.out hb.out hn.out
          first
            | (have hx : bb = true := (by assumption); rw [hx] at hz)
            | (have hx : bb = false := Bool.eq_false_iff.2 (by assumption); rw [hx] at hz)
          have hW := set4 hb2.out (.int .i64 k) (.int .i64 0) (.int .i64 nn) (.string ⟨#[]⟩)
          obtain ⟨g0, g1, g2, g3⟩ := blk4 (((Own.refl [] _).alloc (.cells #[.int .i64 k, .int .i64 0, .int .i64 nn, .string ⟨#[]⟩] 23)).heap hW (by simp))
          refine bodyPost_ret (v := .tuple #[.agg #[.int .i64 k, .int .i64 0, .int .i64 nn, .string ⟨#[]⟩], .bool _]) (by simp [results, Tryd.results23, go_sem, g0, g1, g2, g3]; rfl) rfl ⟨?_, (own4 hO2.out (Nat.le_refl _) _ _ _ _).alloc _⟩
          exact fillP_mk _ _ _ _ _ hz
      · have e1 : scFill k (a :: r) = none := by
          unfold scFill; rw [if_neg h1]
          cases r with
          | nil => exact absurd rfl hlr
          | cons x y => rfl
        rw [e1]
        have hl2 : 0 < r.length := List.length_pos_iff.2 hlr
        have q3 : (((r.length : Int) + 1) == 1) = false := by simp; omega
        clear e1 hC hR c0 hl0 hO1 h1 h3 hr hlr
        go_enter Tryd.func23, Tryd.ntmps23
        go_wp2_with (go_at_call 34; ((with_reducible refine (cN.out _).mono ?_); rintro e w2 ⟨⟨nn, bb, rfl, hb, hn⟩, hO2⟩; have hb2 := hO2.heap hbk.out (by simp); obtain ⟨f0, f1, f2, f3⟩ := blk4 hb2; obtain ⟨z0, z1, z2, z3, z4⟩ := fz4 hb2; replace hb2 := Lib.hid hb2; replace hb := Lib.hid hb; replace hn := Lib.hid hn; replace hO2 := Lib.hid (hO1'.out.trans hO2)))
        all_goals
          have hW := set4 hb2.out (.int .i64 k) (.int .i64 0) (.int .i64 nn) (.string ⟨#[]⟩)
          obtain ⟨g0, g1, g2, g3⟩ := blk4 (((Own.refl [] _).alloc (.cells #[.int .i64 k, .int .i64 0, .int .i64 nn, .string ⟨#[]⟩] 23)).heap hW (by simp))
          refine bodyPost_ret (v := .tuple #[.agg #[.int .i64 k, .int .i64 0, .int .i64 nn, .string ⟨#[]⟩], .bool _]) (by simp [results, Tryd.results23, go_sem, g0, g1, g2, g3]; rfl) rfl ⟨?_, (own4 hO2.out (Nat.le_refl _) _ _ _ _).alloc _⟩
          exact fillP_mk _ _ _ _ _ rfl
    · have q1 : (scWhat k == 1) = false := by
        rcases sc_split k with h | h | h | h | h | h
        · exact absurd hk h
        · exact absurd h h1
        · exact absurd h h3
        all_goals subst h; rfl
      by_cases hlr : r = []
      · subst hlr
        have e1 : scFill k [a] = match scNum a with | some n => some ((fun x => (⟨k, x, 0, ⟨#[]⟩⟩ : Ev)) (n : Int)) | none => none := by unfold scFill; rw [if_neg h1]; simp only [if_neg h3]
        obtain ⟨oo, ho⟩ : ∃ oo, scFill k [a] = oo := ⟨_, rfl⟩
        rw [ho]
        rw [ho] at e1
        replace e1 := Lib.hid e1
        clear ho hC hR c0 hl0 hO1 h1 h3 hr
        go_enter Tryd.func23, Tryd.ntmps23
        go_wp2_with (go_at_call 34; ((with_reducible refine (cN.out _).mono ?_); rintro e w2 ⟨⟨nn, bb, rfl, hb, hn⟩, hO2⟩; have hb2 := hO2.heap hbk.out (by simp); obtain ⟨f0, f1, f2, f3⟩ := blk4 hb2; obtain ⟨z0, z1, z2, z3, z4⟩ := fz4 hb2; replace hb2 := Lib.hid hb2; replace hb := Lib.hid hb; replace hn := Lib.hid hn; replace hO2 := Lib.hid (hO1'.out.trans hO2)))
        all_goals
          have hz := fillP_num (f := fun x => (⟨k, x, 0, ⟨#[]⟩⟩ : Ev)) e1.out hb.out hn.out
          first
            | (have hx : bb = true := (by assumption); rw [hx] at hz)
            | (have hx : bb = false := Bool.eq_false_iff.2 (by assumption); rw [hx] at hz)
          have hW := set4 hb2.out (.int .i64 k) (.int .i64 nn) (.int .i64 0) (.string ⟨#[]⟩)
          obtain ⟨g0, g1, g2, g3⟩ := blk4 (((Own.refl [] _).alloc (.cells #[.int .i64 k, .int .i64 nn, .int .i64 0, .string ⟨#[]⟩] 23)).heap hW (by simp))
          refine bodyPost_ret (v := .tuple #[.agg #[.int .i64 k, .int .i64 nn, .int .i64 0, .string ⟨#[]⟩], .bool _]) (by simp [results, Tryd.results23, go_sem, g0, g1, g2, g3]; rfl) rfl ⟨?_, (own4 hO2.out (Nat.le_refl _) _ _ _ _).alloc _⟩
          exact fillP_mk _ _ _ _ _ hz
      · have e1 : scFill k (a :: r) = none := by
          unfold scFill; rw [if_neg h1]
          cases r with
          | nil => exact absurd rfl hlr
          | cons x y => rfl
        rw [e1]
        have hl2 : 0 < r.length := List.length_pos_iff.2 hlr
        have q3 : (((r.length : Int) + 1) == 1) = false := by simp; omega
        clear e1 hC hR c0 hl0 hO1 h1 h3 hr hlr
        go_enter Tryd.func23, Tryd.ntmps23
        go_wp2_with (go_at_call 34; ((with_reducible refine (cN.out _).mono ?_); rintro e w2 ⟨⟨nn, bb, rfl, hb, hn⟩, hO2⟩; have hb2 := hO2.heap hbk.out (by simp); obtain ⟨f0, f1, f2, f3⟩ := blk4 hb2; obtain ⟨z0, z1, z2, z3, z4⟩ := fz4 hb2; replace hb2 := Lib.hid hb2; replace hb := Lib.hid hb; replace hn := Lib.hid hn; replace hO2 := Lib.hid (hO1'.out.trans hO2)))
        all_goals
          have hW := set4 hb2.out (.int .i64 k) (.int .i64 nn) (.int .i64 0) (.string ⟨#[]⟩)
          obtain ⟨g0, g1, g2, g3⟩ := blk4 (((Own.refl [] _).alloc (.cells #[.int .i64 k, .int .i64 nn, .int .i64 0, .string ⟨#[]⟩] 23)).heap hW (by simp))
          refine bodyPost_ret (v := .tuple #[.agg #[.int .i64 k, .int .i64 nn, .int .i64 0, .string ⟨#[]⟩], .bool _]) (by simp [results, Tryd.results23, go_sem, g0, g1, g2, g3]; rfl) rfl ⟨?_, (own4 hO2.out (Nat.le_refl _) _ _ _ _).alloc _⟩
          exact fillP_mk _ _ _ _ _ rfl
end Go.Proofs.YtnppgidbfmbdgaaDoor
