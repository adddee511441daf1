/- The document's store (crierref27) in memory: Keep. -/
import Derived.Test.YthepdibnnnednaaDoorRetainRef
namespace Go.Proofs.YthepdibnnnednaaDoor
open Go.RowKit Go.Lib Go.Shelf Go.Sort

def DKeepPost (w : World) (xb : Nat) (v : Value) (r : List Ms) (x : Ms) (e : Ending) (w' : World) : Prop :=
  e = .returned (.tuple #[.bool (dKeep r x).1.1, .int .i64 (dKeep r x).1.2]) ∧ ∃ v', DocS w' xb v' (dKeep r x).2 ∧ Own (xb :: v.ownBlock.toList) w w' ∧ (∀ g, v'.ownBlock = some g → v.ownBlock = some g ∨ w.heap.size ≤ g)
theorem keep_none {xb : Nat} {v : Value} {r : List Ms} {w w' : World} (h : DocS w xb v r) (ho : Own [] w w') : ∃ v', DocS w' xb v' r ∧ Own (xb :: v.ownBlock.toList) w w' ∧ (∀ g, v'.ownBlock = some g → v.ownBlock = some g ∨ w.heap.size ≤ g) :=
  ⟨v, h.nil' ho, ho.nil, fun _ hg => .inl hg⟩
/-- What the appends leave. -/
theorem keep_end {xb : Nat} {w w5 : World} {v v3 : Value} {r : List Ms} (h : DocS w xb v r) (hO : Own [] w w5) {r' : List Ms} (hS : Sl 26 Ms.cells 4 w.heap.size w5 v3 r') :
    ∃ v', DocS (w5.setCell ⟨xb, 0, none⟩ v3) xb v' r' ∧ Own (xb :: v.ownBlock.toList) w (w5.setCell ⟨xb, 0, none⟩ v3) ∧ (∀ g, v'.ownBlock = some g → v.ownBlock = some g ∨ w.heap.size ≤ g) := by
  have hxl := lt_of_heap h.row
  have hO2 : Own [xb] w5 (w5.setCell ⟨xb, 0, none⟩ v3) := (Own.refl _ _).setCell (by simp) _
  have hne : ∀ g, v3.ownBlock = some g → g ≠ xb := fun g hg => by have := (hS.block hg).1; omega
  exact ⟨v3, ⟨row_set (hO.heap h.row (by simp)) _ _, (hS.own hO2 (fun g hg => by simpa using hne g hg)).mono (Nat.zero_le _), fun hx => hne xb hx rfl⟩, (hO.nil.trans hO2).mono (by simp), fun g hg => .inr (hS.block hg).1⟩
/-- A whole element is another. -/
theorem row_msg {w : World} {g cap : Nat} {l : List Ms} (h : Row 26 Ms.cells 4 w g cap l) {i : Nat} (hi : i < l.length) (x1 x2 : ByteArray) (x3 : Int) (x4 : Bool) :
    Row 26 Ms.cells 4 ((((w.setCell ⟨g, i * 4, none⟩ (.string x1)).setCell ⟨g, i * 4 + 1, none⟩ (.string x2)).setCell ⟨g, i * 4 + 2, none⟩ (.int .i64 x3)).setCell ⟨g, i * 4 + 3, none⟩ (.bool x4)) g cap (l.set i ⟨x1, x2, x3, x4⟩) := by
  have h0 : l[i]? = some l[i] := List.getElem?_eq_getElem hi
  generalize l[i] = p at h0
  have s1 := row_upd h msCells_len (x := { p with top := x1 }) 0 (.string x1) h0 (fun j hj => by
    match j, hj with
    | 0, _ => simp [Ms.cells]
    | 1, _ => simp [Ms.cells]
    | 2, _ => simp [Ms.cells]
    | 3, _ => simp [Ms.cells])
  have s2 := row_upd s1 msCells_len (x := { p with top := x1, text := x2 }) 1 (.string x2) (List.getElem?_set_self (by simpa using hi)) (fun j hj => by
    match j, hj with
    | 0, _ => simp [Ms.cells]
    | 1, _ => simp [Ms.cells]
    | 2, _ => simp [Ms.cells]
    | 3, _ => simp [Ms.cells])
  rw [List.set_set] at s2
  have s3 := row_upd s2 msCells_len (x := { p with top := x1, text := x2, qos := x3 }) 2 (.int .i64 x3) (List.getElem?_set_self (by simpa using hi)) (fun j hj => by
    match j, hj with
    | 0, _ => simp [Ms.cells]
    | 1, _ => simp [Ms.cells]
    | 2, _ => simp [Ms.cells]
    | 3, _ => simp [Ms.cells])
  rw [List.set_set] at s3
  have s4 := row_upd s3 msCells_len (x := ⟨x1, x2, x3, x4⟩) 3 (.bool x4) (List.getElem?_set_self (by simpa using hi)) (fun j hj => by
    match j, hj with
    | 0, _ => simp [Ms.cells]
    | 1, _ => simp [Ms.cells]
    | 2, _ => simp [Ms.cells]
    | 3, _ => simp [Ms.cells])
  rw [List.set_set] at s4
  exact s4

set_option maxRecDepth 100000 in
set_option maxHeartbeats 4000000 in
theorem skeep_any (xb : Nat) (v : Value) (r : List Ms) (x : Ms) (w : World) (h : DocS w xb v r) (hl : r.length ≤ 32) :
    Calls Tryd.prog 13 #[.pointer (some ⟨xb, 0, none⟩), x.val] w (DKeepPost w xb v r x) := by
  obtain ⟨x1, x2, x3, x4⟩ := x
  unfold DKeepPost dKeep
  simp only [Ms.stays, Ms.val]
  have hA : Own [] w (w.alloc (.cells #[.string x1, .string x2, .int .i64 x3, .bool x4] 26)) := (Own.refl _ _).alloc _
  have hrow : (w.alloc (.cells #[.string x1, .string x2, .int .i64 x3, .bool x4] 26)).heap[w.heap.size]? = some (.cells #[.string x1, .string x2, .int .i64 x3, .bool x4] 26 (0, 0)) := heap_alloc_new _ _
  have cN := dname_any x1 (w.alloc (.cells #[.string x1, .string x2, .int .i64 x3, .bool x4] 26))
  have hxl := lt_of_heap h.row
  cases hn : lvName x1
  · rw [hn] at cN
    have hend := fun w' (ho : Own [] w w') => keep_none h ho
    simp only [if_true]
    replace cN := Lib.hid cN
    replace hA := Lib.hid hA
    replace hend := Lib.hid hend
    clear hrow hn h
    go_enter Tryd.func13, Tryd.ntmps13
    go_wp2_with (go_at_call 22; refine cN.out.mono ?_; rintro e w2 ⟨rfl, hO2⟩; replace hO2 := Lib.hid (hA.out.trans hO2))
    go_ret2
    exact ⟨rfl, hend.out _ hO2.out⟩
  · rw [hn] at cN
    simp only [Bool.true_eq_false, if_false]
    have F := fun W (ho : Own [] w W) => sfind_any xb v r x1 W (h.nil' ho) hl
    have hC : ∀ W, Own [] (w.alloc (.cells #[.string x1, .string x2, .int .i64 x3, .bool x4] 26)) W → W.cell? ⟨w.heap.size, 0, none⟩ = some (.string x1) ∧ W.cell? ⟨w.heap.size, 1, none⟩ = some (.string x2) ∧ W.cell? ⟨w.heap.size, 2, none⟩ = some (.int .i64 x3) ∧ W.cell? ⟨w.heap.size, 3, none⟩ = some (.bool x4) ∧ w.heap.size < W.heap.size := fun W ho =>
      ⟨cell_of_row W _ 0 _ _ _ (ho.heap hrow (by simp)), cell_of_row W _ 1 _ _ _ (ho.heap hrow (by simp)), cell_of_row W _ 2 _ _ _ (ho.heap hrow (by simp)), cell_of_row W _ 3 _ _ _ (ho.heap hrow (by simp)), lt_of_heap (ho.heap hrow (by simp))⟩
    replace hC := Lib.hid hC
    replace cN := Lib.hid cN
    replace hA := Lib.hid hA
    have hK := fun w' (ho : Own [] w w') => h.nil' ho
    have hK1 : ∀ w', Own [] w w' → w'.cell? ⟨xb, 0, none⟩ = some v := fun w' ho => cell_of_row w' xb 0 _ _ _ (hK w' ho).row
    replace hK1 := Lib.hid hK1
    have hfz : ∀ w2, Own [] w w2 → w2.frozen? ⟨xb, 0, none⟩ = false := fun w2 ho => frozen_of_row w2 xb 0 _ _ (hK w2 ho).row
    replace hfz := Lib.hid hfz
    have hnone := fun w' (ho : Own [] w w') => keep_none h ho
    have hfin0 := fun w5 v3 (ho : Own [] w w5) (r' : List Ms) (hs : Sl 26 Ms.cells 4 w.heap.size w5 v3 r') => keep_end h ho hs
    have hle := rPos_le (key := tKey) r x1
    cases ht : x2.toList.isEmpty
    · have htb : (x2.toList == []) = false := by rw [← ht]; cases x2.toList <;> rfl
      simp only [Bool.false_eq_true, if_false]
      cases hb : rHas tKey r x1
      · rw [hb] at F
        simp only [Bool.false_eq_true, if_false]
        by_cases hf : 32 ≤ r.length
        · rw [if_pos hf]
          have hf' : (32 : Int) ≤ r.length := by omega
          obtain ⟨a, cap, rfl⟩ := h.own.sl
          replace F := Lib.hid F
          replace hnone := Lib.hid hnone
          clear hK hfin0 h hb hrow
          go_enter Tryd.func13, Tryd.ntmps13
          go_wp2_with (first
            | (go_at_call 22; refine cN.out.mono ?_; rintro e w2 ⟨rfl, hO2⟩; obtain ⟨d0, d1, d2, d3, dl⟩ := hC.out _ hO2; replace hO2 := Lib.hid hO2)
            | (go_at_call 23; refine (F.out _ (hA.out.trans hO2.out)).mono ?_; rintro e w3 ⟨rfl, hO3⟩; obtain ⟨e0, e1, e2, e3, el⟩ := hC.out _ (hO2.out.trans hO3); replace hO3 := hA.out.trans (hO2.out.trans hO3); have k1 := hK1.out _ (hO3.alloc (.cells #[.string x1, .string x2, .int .i64 x3, .bool true] 26)); have k2 := hK1.out _ hO3; replace hO3 := Lib.hid hO3))
          go_ret2
          exact ⟨rfl, hnone.out _ (hO3.out.alloc _)⟩
        · rw [if_neg hf]
          have hf' : ¬ (32 : Int) ≤ r.length := by omega
          unfold rIns
          show Calls _ _ _ _ (fun e w' => _ ∧ ∃ v', DocS w' xb v' (r.take (rPos tKey r x1) ++ [(⟨x1, x2, x3, true⟩ : Ms)] ++ r.drop (rPos tKey r x1)) ∧ _)
          obtain ⟨v1, hs1, hr1, hb1⟩ := h.own.take mElem hle
          obtain ⟨v2, hs2, hr2, hb2⟩ := h.own.drop mElem hle
          generalize rPos tKey r x1 = K at *
          have lt : (r.take K).length ≤ 32 := by simp; omega
          have ld : (r.drop K).length ≤ 32 := by simp; omega
          generalize hrr : r.take K ++ [(⟨x1, x2, x3, true⟩ : Ms)] ++ r.drop K = rr
          have hfin := fun w5 v3 ho hs => hfin0 w5 v3 ho rr hs
          replace hfin := Lib.hid hfin
          replace hrr := Lib.hid hrr
          replace hs1 := Lib.hid hs1
          replace hs2 := Lib.hid hs2
          replace F := Lib.hid F
          have hxs := hxl
          obtain ⟨a, cap, rfl⟩ := h.own.sl
          clear hK hfin0 h hb hrow hb1 hb2 hnone
          go_enter Tryd.func13, Tryd.ntmps13
          go_wp2_with (first
            | (go_at_call 22; refine cN.out.mono ?_; rintro e w2 ⟨rfl, hO2⟩; obtain ⟨d0, d1, d2, d3, dl⟩ := hC.out _ hO2; replace hO2 := Lib.hid hO2)
            | (go_at_call 23; refine (F.out _ (hA.out.trans hO2.out)).mono ?_; rintro e w3 ⟨rfl, hO3⟩; obtain ⟨e0, e1, e2, e3, el⟩ := hC.out _ (hO2.out.trans hO3); replace hO3 := hA.out.trans (hO2.out.trans hO3); have hOy := hO3.alloc (.cells #[.string x1, .string x2, .int .i64 x3, .bool true] 26); have k1 := hK1.out _ hOy; have k2 := hK1.out _ hO3; have hOe := hOy.alloc (.cells #[] 26); have hsl := (Sl.empty (enc := Ms.cells) (k := 4) 26 (w3.alloc (.cells #[.string x1, .string x2, .int .i64 x3, .bool true] 26))).mono (base' := w.heap.size) hOy.size; rw [World.size_alloc] at hsl; have hr1' := hr1.nil' hOe; have kE := hK1.out _ hOe; have hrow5 : (w3.alloc (.cells #[.string x1, .string x2, .int .i64 x3, .bool true] 26)).heap[w3.heap.size]? = some (.cells #[.string x1, .string x2, .int .i64 x3, .bool true] 26 (0, 0)) := heap_alloc_new _ _; replace hrow5 := Lib.hid hrow5; replace hOe := Lib.hid hOe; replace hsl := Lib.hid hsl; replace hr1' := Lib.hid hr1'; replace hO3 := Lib.hid hO3; replace hOy := Lib.hid hOy)
            | (refine wpList_slice_of (o := ⟨some 70, _, _, _, _, _⟩) rfl _ _ _ _ _ rfl rfl rfl rfl rfl hs1.out ?_)
            | (at_builtin; refine wpList_append_new2 rfl (.tmp 64) (.tmp 70) rfl mElem hOe.out rfl hsl.out rfl hr1'.out (by simp only [List.length_nil]; omega) (by unfold maxLen; simp only [List.length_nil]; omega) ?_; intro va wa hSa hOa _ _ hg3; have hg4 : Own [w3.heap.size + 1] _ wa := hg3; have ra := hg4.heap ((((Own.refl [] _).alloc (.cells #[] 26)).heap hrow5.out (by simp))) (by simp); clear hg4; have y0 : wa.cell? ⟨w3.heap.size, 0, none⟩ = some (.string x1) := cell_of_row _ _ 0 _ _ _ ra; have y1 : wa.cell? ⟨w3.heap.size, 1, none⟩ = some (.string x2) := cell_of_row _ _ 1 _ _ _ ra; have y2 : wa.cell? ⟨w3.heap.size, 2, none⟩ = some (.int .i64 x3) := cell_of_row _ _ 2 _ _ _ ra; have y3 : wa.cell? ⟨w3.heap.size, 3, none⟩ = some (.bool true) := cell_of_row _ _ 3 _ _ _ ra; have ca := hK1.out wa hOa; have hOb := hOa.alloc (.cells #[.string x1, .string x2, .int .i64 x3, .bool true] 26); have hSb := hSa.nil' ((Own.refl [] wa).alloc (.cells #[.string x1, .string x2, .int .i64 x3, .bool true] 26)); have hRb := Reads.new (enc := Ms.cells) (T := 26) wa ⟨x1, x2, x3, true⟩ 1; replace hOb := Lib.hid hOb; replace hSb := Lib.hid hSb; replace hRb := Lib.hid hRb; clear hSa hOa hr1' hOe hg3 ra)
            | (at_builtin; refine wpList_append_new rfl (.tmp 72) (.tmp 74) rfl mElem hOb.out rfl hSb.out rfl hRb.out (by simp only [List.length_append, List.length_nil, List.length_singleton]; omega) (by unfold maxLen; simp only [List.length_append, List.length_nil, List.length_singleton]; omega) ?_; intro vb wb hSb' hOc _ _; have cb := hK1.out wb hOc; have hr2' := hr2.nil' hOc; replace hOc := Lib.hid hOc; replace hSb' := Lib.hid hSb'; replace hr2' := Lib.hid hr2'; clear hSb hRb hOb)
            | (refine wpList_slice_of (o := ⟨some 82, _, _, _, _, _⟩) rfl _ _ _ _ _ rfl rfl rfl rfl rfl hs2.out ?_)
            | (at_builtin; refine wpList_append_new rfl (.tmp 76) (.tmp 82) rfl mElem hOc.out rfl hSb'.out rfl hr2'.out (by simp only [List.length_append, List.length_nil, List.length_singleton]; omega) (by unfold maxLen; simp only [List.length_append, List.length_nil, List.length_singleton]; omega) ?_; intro vc wc hSc hOd _ _; rw [List.nil_append, hrr.out] at hSc; obtain ⟨ac, capc, rfl⟩ := hSc.sl; have cc := hK1.out wc hOd; have cf := hfz.out wc hOd; replace hOd := Lib.hid hOd; replace hSc := Lib.hid hSc))
          go_ret2
          exact ⟨rfl, hfin.out _ _ hOd.out hSc.out⟩
      · rw [hb] at F
        simp only [if_true]
        obtain ⟨p, hp, hpn⟩ := rHas_some hb
        have hKl : rPos tKey r x1 < r.length := (List.getElem?_eq_some_iff.1 hp).1
        generalize rPos tKey r x1 = K at *
        obtain ⟨g, cap, rfl, _, hR⟩ : ∃ g cap, v = .slice (some ⟨g, 0, none⟩) r.length cap ∧ 0 ≤ g ∧ Row 26 Ms.cells 4 w g cap r := by
          rcases h.own.form with ⟨_, rfl⟩ | h1
          · simp at hKl
          · exact h1
        have hne : g ≠ xb := fun e => h.ne (by rw [e]; rfl)
        have hgl := hR.lt
        have hfin : ∀ w2, Own [] w w2 → ∃ v', DocS ((((w2.setCell ⟨g, K * 4, none⟩ (.string x1)).setCell ⟨g, K * 4 + 1, none⟩ (.string x2)).setCell ⟨g, K * 4 + 2, none⟩ (.int .i64 x3)).setCell ⟨g, K * 4 + 3, none⟩ (.bool true)) xb v' (r.set K ⟨x1, x2, x3, true⟩) ∧
            Own (xb :: (Value.slice (some ⟨g, 0, none⟩) r.length cap).ownBlock.toList) w ((((w2.setCell ⟨g, K * 4, none⟩ (.string x1)).setCell ⟨g, K * 4 + 1, none⟩ (.string x2)).setCell ⟨g, K * 4 + 2, none⟩ (.int .i64 x3)).setCell ⟨g, K * 4 + 3, none⟩ (.bool true)) ∧ (∀ g', v'.ownBlock = some g' → (Value.slice (some ⟨g, 0, none⟩) r.length cap).ownBlock = some g' ∨ w.heap.size ≤ g') := by
          intro w2 ho
          have hR2 := row_msg (hR.own ho (by simp)) hKl x1 x2 x3 true
          have hO2 : Own [g] w2 ((((w2.setCell ⟨g, K * 4, none⟩ (.string x1)).setCell ⟨g, K * 4 + 1, none⟩ (.string x2)).setCell ⟨g, K * 4 + 2, none⟩ (.int .i64 x3)).setCell ⟨g, K * 4 + 3, none⟩ (.bool true)) := ((((Own.refl _ _).setCell (by simp) _).setCell (by simp) _).setCell (by simp) _).setCell (by simp) _
          refine ⟨.slice (some ⟨g, 0, none⟩) r.length cap, ⟨?_, ?_, h.ne⟩, (ho.nil.trans hO2).mono (by simp [Value.ownBlock]), fun g' hg' => .inl hg'⟩
          · exact hO2.heap (hK w2 ho).row (by simpa using Ne.symm hne)
          · have hl2 : r.length = (r.set K ⟨x1, x2, x3, true⟩).length := by simp
            rw [hl2]
            exact Sl.of_row hR2 msCells_len (Nat.zero_le _)
        have hKf : ∀ w2, Own [] w w2 → (w2.frozen? ⟨g, K * 4, none⟩ = false ∧ w2.frozen? ⟨g, K * 4 + 1, none⟩ = false ∧ w2.frozen? ⟨g, K * 4 + 2, none⟩ = false ∧ w2.frozen? ⟨g, K * 4 + 3, none⟩ = false) ∧ w2.cell? ⟨g, K * 4, none⟩ = some (.string p.top) ∧ w2.cell? ⟨g, K * 4 + 1, none⟩ = some (.string p.text) ∧ w2.cell? ⟨g, K * 4 + 2, none⟩ = some (.int .i64 p.qos) ∧ w2.cell? ⟨g, K * 4 + 3, none⟩ = some (.bool p.ret) := fun w2 ho =>
          ⟨⟨(hR.own ho (by simp)).frozen _, (hR.own ho (by simp)).frozen _, (hR.own ho (by simp)).frozen _, (hR.own ho (by simp)).frozen _⟩, (hR.own ho (by simp)).cell msCells_len (c := 0) hp rfl, (hR.own ho (by simp)).cell msCells_len (c := 1) hp rfl, (hR.own ho (by simp)).cell msCells_len (c := 2) hp rfl, (hR.own ho (by simp)).cell msCells_len (c := 3) hp rfl⟩
        replace hfin := Lib.hid hfin
        replace hKf := Lib.hid hKf
        replace F := Lib.hid F
        clear hK hb h hp hR hpn hnone hfin0 hrow
        have z0 : (0 : Int) ≤ K := by omega
        have z1 : (K : Int) < r.length := by omega
        go_enter Tryd.func13, Tryd.ntmps13
        go_wp2_with (first
          | (go_at_call 22; refine cN.out.mono ?_; rintro e w2 ⟨rfl, hO2⟩; obtain ⟨d0, d1, d2, d3, dl⟩ := hC.out _ hO2; replace hO2 := Lib.hid hO2)
          | (go_at_call 23; refine (F.out _ (hA.out.trans hO2.out)).mono ?_; rintro e w3 ⟨rfl, hO3⟩; obtain ⟨e0, e1, e2, e3, el⟩ := hC.out _ (hO2.out.trans hO3); replace hO3 := hA.out.trans (hO2.out.trans hO3); have hOy := hO3.alloc (.cells #[.string x1, .string x2, .int .i64 x3, .bool true] 26); have k1 := hK1.out _ hOy; have k2 := hK1.out _ hO3; obtain ⟨⟨j0, j1, j2, j3⟩, i0, i1, i2, i3⟩ := hKf.out _ hO3; have gl3 : g < w3.heap.size := Nat.lt_of_lt_of_le hgl hO3.size; replace hO3 := Lib.hid hO3; replace hOy := Lib.hid hOy))
        go_region
        all_goals
          go_wp2_with fail
          go_ret2
          obtain ⟨v', D, O, B⟩ := hfin.out _ hO3.out
          exact ⟨rfl, v', D.nil' (((Own.refl [] _).alloc _).drew), (O.alloc _).drew, B⟩
    · have htb : (x2.toList == []) = true := by cases hx : x2.toList with | nil => rfl | cons => rw [hx] at ht; cases ht
      simp only [if_true]
      cases hb : rHas tKey r x1
      · rw [hb] at F
        simp only [Bool.false_eq_true, if_false]
        replace F := Lib.hid F
        replace hnone := Lib.hid hnone
        clear hK hfin0 h hb hrow
        go_enter Tryd.func13, Tryd.ntmps13
        go_wp2_with (first
          | (go_at_call 22; refine cN.out.mono ?_; rintro e w2 ⟨rfl, hO2⟩; obtain ⟨d0, d1, d2, d3, dl⟩ := hC.out _ hO2; replace hO2 := Lib.hid hO2)
          | (go_at_call 23; refine (F.out _ (hA.out.trans hO2.out)).mono ?_; rintro e w3 ⟨rfl, hO3⟩; obtain ⟨e0, e1, e2, e3, el⟩ := hC.out _ (hO2.out.trans hO3); replace hO3 := Lib.hid (hO2.out.trans hO3)))
        go_ret2
        exact ⟨rfl, hnone.out _ (hA.out.trans hO3.out)⟩
      · rw [hb] at F
        simp only [if_true]
        obtain ⟨p, hp, hpn⟩ := rHas_some hb
        have hKl : rPos tKey r x1 < r.length := (List.getElem?_eq_some_iff.1 hp).1
        generalize rPos tKey r x1 = K at *
        obtain ⟨v1, hs1, hr1, hb1⟩ := h.own.take mElem hle
        obtain ⟨v2, hs2, hr2, hb2⟩ := h.own.drop mElem (i := K + 1) (by omega)
        rw [show (((K + 1 : Nat)) : Int) = (K : Int) + 1 by omega] at hs2
        have lt : (r.take K).length ≤ 32 := by simp; omega
        have ld : (r.drop (K + 1)).length ≤ 32 := by simp; omega
        generalize hrr : r.take K ++ r.drop (K + 1) = rr
        have hfin := fun w5 v3 ho hs => hfin0 w5 v3 ho rr hs
        have hw1 : IntKind.i64.wrap ((K : Int) + 1) = (K : Int) + 1 := IntWalk.i64_in _ (by omega)
        replace hfin := Lib.hid hfin
        replace hrr := Lib.hid hrr
        replace hs1 := Lib.hid hs1
        replace hs2 := Lib.hid hs2
        replace F := Lib.hid F
        obtain ⟨a, cap, rfl⟩ := h.own.sl
        clear hK hfin0 h hb hrow hb1 hb2 hnone hp hpn
        go_enter Tryd.func13, Tryd.ntmps13
        go_wp2_with (first
          | (go_at_call 22; refine cN.out.mono ?_; rintro e w2 ⟨rfl, hO2⟩; obtain ⟨d0, d1, d2, d3, dl⟩ := hC.out _ hO2; replace hO2 := Lib.hid hO2)
          | (go_at_call 23; refine (F.out _ (hA.out.trans hO2.out)).mono ?_; rintro e w3 ⟨rfl, hO3⟩; obtain ⟨e0, e1, e2, e3, el⟩ := hC.out _ (hO2.out.trans hO3); replace hO3 := hA.out.trans (hO2.out.trans hO3); have k2 := hK1.out _ hO3; have hOe := hO3.alloc (.cells #[] 26); have hsl := (Sl.empty (enc := Ms.cells) (k := 4) 26 w3).mono (base' := w.heap.size) hO3.size; have hr1' := hr1.nil' hOe; have kE := hK1.out _ hOe; replace hOe := Lib.hid hOe; replace hsl := Lib.hid hsl; replace hr1' := Lib.hid hr1'; replace hO3 := Lib.hid hO3)
          | (refine wpList_slice_of (o := ⟨some 32, _, _, _, _, _⟩) rfl _ _ _ _ _ rfl rfl rfl rfl rfl hs1.out ?_)
          | (at_builtin; refine wpList_append_new rfl (.tmp 26) (.tmp 32) rfl mElem hOe.out rfl hsl.out rfl hr1'.out (by simp only [List.length_nil]; omega) (by unfold maxLen; simp only [List.length_nil]; omega) ?_; intro va wa hSa hOa _ _; have ca := hK1.out wa hOa; have hr2' := hr2.nil' hOa; replace hOa := Lib.hid hOa; replace hSa := Lib.hid hSa; replace hr2' := Lib.hid hr2'; clear hr1' hOe)
          | (refine wpList_slice_of (o := ⟨some 41, _, _, _, _, _⟩) rfl _ _ _ _ _ rfl rfl rfl rfl rfl hs2.out ?_)
          | (at_builtin; refine wpList_append_new rfl (.tmp 34) (.tmp 41) rfl mElem hOa.out rfl hSa.out rfl hr2'.out (by simp only [List.length_append, List.length_nil]; omega) (by unfold maxLen; simp only [List.length_append, List.length_nil]; omega) ?_; intro vc wc hSc hOd _ _; rw [List.nil_append, hrr.out] at hSc; obtain ⟨ac, capc, rfl⟩ := hSc.sl; have cc := hK1.out wc hOd; have cf := hfz.out wc hOd; replace hOd := Lib.hid hOd; replace hSc := Lib.hid hSc))
        go_ret2
        exact ⟨rfl, hfin.out _ _ hOd.out hSc.out⟩
end Go.Proofs.YthepdibnnnednaaDoor
