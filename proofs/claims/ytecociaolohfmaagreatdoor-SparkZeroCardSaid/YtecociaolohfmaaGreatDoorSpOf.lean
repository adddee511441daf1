/- The namespace (chapter 20): the spot of a topic. -/
import Derived.Test.YtecociaolohfmaaGreatDoorSpPut
set_option linter.unusedSimpArgs false
set_option linter.unusedVariables false
namespace Go.Proofs.YtecociaolohfmaaGreatDoor
open Go.RowKit

def Spot.zero : Spot := ⟨0, ⟨#[]⟩, ⟨#[]⟩, ⟨#[]⟩⟩
def spGuess : List ByteArray → Spot
  | [_, _, n] => ⟨9, ⟨#[]⟩, n, ⟨#[]⟩⟩
  | [_, g, x, n] => ⟨spKind x, g, n, ⟨#[]⟩⟩
  | [_, g, x, n, d] => ⟨spKind x, g, n, d⟩
  | _ => Spot.zero
/-- The spot of a topic. -/
def spOf (t : ByteArray) : Spot := if (spPut (spGuess (levels t))).2 = 0 ∧ (spPut (spGuess (levels t))).1 = t then spGuess (levels t) else Spot.zero
def SpotP (s : Spot) (e : Ending) : Prop := e = .returned (.agg #[.int .i64 s.k, .string s.g, .string s.n, .string s.d])
theorem spotP_mk {s : Spot} (k : Int) (g n d : ByteArray) (h : s = ⟨k, g, n, d⟩) : SpotP s (.returned (.agg #[.int .i64 k, .string g, .string n, .string d])) := by rw [h]; rfl
theorem fzS {w : World} {b : Nat} {x0 x1 x2 x3 : Value} {T : TypeId} (h : w.heap[b]? = some (.cells #[x0, x1, x2, x3] T (0, 0))) :
    w.frozen? ⟨b, 0, none⟩ = false ∧ w.frozen? ⟨b, 1, none⟩ = false ∧ w.frozen? ⟨b, 2, none⟩ = false ∧ w.frozen? ⟨b, 3, none⟩ = false ∧ b < w.heap.size :=
  ⟨frozen_of_row w b 0 _ _ h, frozen_of_row w b 1 _ _ h, frozen_of_row w b 2 _ _ h, frozen_of_row w b 3 _ _ h, lt_of_heap h⟩
theorem setS {w : World} {b : Nat} {x0 x1 x2 x3 : Value} {T : TypeId} (h : w.heap[b]? = some (.cells #[x0, x1, x2, x3] T (0, 0))) (u0 u1 u2 u3 : Value) :
    ((((w.setCell ⟨b, 0, none⟩ u0).setCell ⟨b, 1, none⟩ u1).setCell ⟨b, 2, none⟩ u2).setCell ⟨b, 3, none⟩ u3).heap[b]? = some (.cells #[u0, u1, u2, u3] T (0, 0)) := by
  have h1 := heap_setCell_same w b 0 _ T u0 h
  have h2 := heap_setCell_same _ b 1 _ T u1 h1
  have h3 := heap_setCell_same _ b 2 _ T u2 h2
  have h4 := heap_setCell_same _ b 3 _ T u3 h3
  simpa using h4
theorem ownS {w w' : World} (h : Own [] w w') {b : Nat} (hb : w.heap.size ≤ b) (u0 u1 u2 u3 : Value) :
    Own [] w ((((w'.setCell ⟨b, 0, none⟩ u0).setCell ⟨b, 1, none⟩ u1).setCell ⟨b, 2, none⟩ u2).setCell ⟨b, 3, none⟩ u3) :=
  (((h.setCell (.inr hb) _).setCell (.inr hb) _).setCell (.inr hb) _).setCell (.inr hb) _
set_option maxRecDepth 100000 in
set_option maxHeartbeats 4000000 in
theorem guess_any (l : List ByteArray) (v : Value) (w : World) (hR : Reads lEnc w v l) (hW : WordsAt w) : Calls Tryz.prog 23 #[v] w fun e w' => SpotP (spGuess l) e ∧ Own [] w w' := by
  obtain ⟨av, cv, rfl⟩ := hR.form
  have hO1 : Own [] w (w.alloc (.cells #[.int .i64 0, .string ⟨#[]⟩, .string ⟨#[]⟩, .string ⟨#[]⟩] 49)) := (Own.refl _ _).alloc _
  have hb := heap_alloc_new w (.cells #[.int .i64 0, .string ⟨#[]⟩, .string ⟨#[]⟩, .string ⟨#[]⟩] 49)
  have cK := Lib.hid (fun x W (h : WordsAt W) => kind_any x W h)
  have hWw := Lib.hid (hW.own hO1)
  by_cases h3 : l.length = 3
  · match l, h3, hR with
    | [x0, x1, x2], _, hR =>
      obtain ⟨b, o, rfl, hC⟩ := hR.at_ lEnc_len (by simp)
      have c2 : w.cell? ⟨b, o + 2, none⟩ = some (.string x2) := by simpa using hC 2 x2 0 (.string x2) rfl rfl
      have d2 := (hO1.cell (block_lt_of_cell c2) (by simp)).trans c2
      clear hC hR
      show Calls Tryz.prog 23 #[.slice (some ⟨b, o, none⟩) 3 cv] w fun e w' => SpotP ⟨9, ⟨#[]⟩, x2, ⟨#[]⟩⟩ e ∧ Own [] w w'
      go_enter Tryz.func23, Tryz.ntmps23
      go_wp2_with fail
      obtain ⟨g0, g1, g2, g3⟩ := blkS (heap_alloc_new w (.cells #[.int .i64 9, .string ⟨#[]⟩, .string x2, .string ⟨#[]⟩] 49))
      refine bodyPost_ret (v := .agg #[.int .i64 9, .string ⟨#[]⟩, .string x2, .string ⟨#[]⟩]) (by simp [results, Tryz.results23, go_sem, g0, g1, g2, g3]; try rfl) rfl ⟨rfl, (Own.refl [] w).alloc _⟩
  · by_cases h4 : l.length = 4
    · replace h3 := h4
      clear h4
      match l, h3, hR with
      | [x0, x1, x2, x3], _, hR =>
        obtain ⟨b, o, rfl, hC⟩ := hR.at_ lEnc_len (by simp)
        have c1 : w.cell? ⟨b, o + 1, none⟩ = some (.string x1) := by simpa using hC 1 x1 0 (.string x1) rfl rfl
        have d1 := (hO1.cell (block_lt_of_cell c1) (by simp)).trans c1
        have c2 : w.cell? ⟨b, o + 2, none⟩ = some (.string x2) := by simpa using hC 2 x2 0 (.string x2) rfl rfl
        have d2 := (hO1.cell (block_lt_of_cell c2) (by simp)).trans c2
        have c3 : w.cell? ⟨b, o + 3, none⟩ = some (.string x3) := by simpa using hC 3 x3 0 (.string x3) rfl rfl
        have d3 := (hO1.cell (block_lt_of_cell c3) (by simp)).trans c3
        clear hC hR
        show Calls Tryz.prog 23 #[.slice (some ⟨b, o, none⟩) 4 cv] w fun e w' => SpotP ⟨spKind x2, x1, x3, ⟨#[]⟩⟩ e ∧ Own [] w w'
        go_enter Tryz.func23, Tryz.ntmps23
        go_wp2_with fail
        go_region_held3 (fun W' => W'.cell? ⟨b, o + 1, none⟩ = some (.string x1) ∧ W'.cell? ⟨b, o + 2, none⟩ = some (.string x2) ∧ W'.cell? ⟨b, o + 3, none⟩ = some (.string x3)) (go_keep) ((go_at_call 52; ((with_reducible refine (cK.out _ _ (by first | exact hWw.out | exact hWw.out.own ((Own.refl [] _).drew))).mono ?_); rintro e w2 ⟨rfl, rfl⟩)))
        all_goals
          go_wp2_with fail
        obtain ⟨g0, g1, g2, g3⟩ := blkS (heap_alloc_new w (.cells #[.int .i64 (spKind x2), .string x1, .string x3, .string ⟨#[]⟩] 49))
        refine bodyPost_ret (v := .agg #[.int .i64 (spKind x2), .string x1, .string x3, .string ⟨#[]⟩]) (by simp [results, Tryz.results23, go_sem, g0, g1, g2, g3]; try rfl) rfl ⟨rfl, ((Own.refl [] w).alloc _).drew⟩
    · by_cases h5 : l.length = 5
      · match l, h5, hR with
        | [x0, x1, x2, x3, x4], _, hR =>
          obtain ⟨b, o, rfl, hC⟩ := hR.at_ lEnc_len (by simp)
          have c1 : w.cell? ⟨b, o + 1, none⟩ = some (.string x1) := by simpa using hC 1 x1 0 (.string x1) rfl rfl
          have d1 := (hO1.cell (block_lt_of_cell c1) (by simp)).trans c1
          have c2 : w.cell? ⟨b, o + 2, none⟩ = some (.string x2) := by simpa using hC 2 x2 0 (.string x2) rfl rfl
          have d2 := (hO1.cell (block_lt_of_cell c2) (by simp)).trans c2
          have c3 : w.cell? ⟨b, o + 3, none⟩ = some (.string x3) := by simpa using hC 3 x3 0 (.string x3) rfl rfl
          have d3 := (hO1.cell (block_lt_of_cell c3) (by simp)).trans c3
          have c4 : w.cell? ⟨b, o + 4, none⟩ = some (.string x4) := by simpa using hC 4 x4 0 (.string x4) rfl rfl
          have d4 := (hO1.cell (block_lt_of_cell c4) (by simp)).trans c4
          clear hC hR
          show Calls Tryz.prog 23 #[.slice (some ⟨b, o, none⟩) 5 cv] w fun e w' => SpotP ⟨spKind x2, x1, x3, x4⟩ e ∧ Own [] w w'
          go_enter Tryz.func23, Tryz.ntmps23
          go_wp2_with fail
          go_region_held3 (fun W' => W'.cell? ⟨b, o + 1, none⟩ = some (.string x1) ∧ W'.cell? ⟨b, o + 2, none⟩ = some (.string x2) ∧ W'.cell? ⟨b, o + 3, none⟩ = some (.string x3) ∧ W'.cell? ⟨b, o + 4, none⟩ = some (.string x4)) (go_keep) ((go_at_call 52; ((with_reducible refine (cK.out _ _ (by first | exact hWw.out | exact hWw.out.own ((Own.refl [] _).drew))).mono ?_); rintro e w2 ⟨rfl, rfl⟩)))
          all_goals
            go_wp2_with fail
          obtain ⟨g0, g1, g2, g3⟩ := blkS (heap_alloc_new w (.cells #[.int .i64 (spKind x2), .string x1, .string x3, .string x4] 49))
          refine bodyPost_ret (v := .agg #[.int .i64 (spKind x2), .string x1, .string x3, .string x4]) (by simp [results, Tryz.results23, go_sem, g0, g1, g2, g3]; try rfl) rfl ⟨rfl, ((Own.refl [] w).alloc _).drew⟩
      · have hg : spGuess l = Spot.zero := by
          match l, h3, h4, h5 with
          | [], _, _, _ => rfl
          | [_], _, _, _ => rfl
          | [_, _], _, _, _ => rfl
          | _ :: _ :: _ :: _ :: _ :: _ :: _, _, _, _ => rfl
          | [_, _, _], h, _, _ => exact absurd rfl h
          | [_, _, _, _], _, h, _ => exact absurd rfl h
          | [_, _, _, _, _], _, _, h => exact absurd rfl h
        have k3 : ((l.length : Int) == 3) = false := by simp; omega
        have k4 : ((l.length : Int) == 4) = false := by simp; omega
        have k5 : ((l.length : Int) == 5) = false := by simp; omega
        have q3 : ¬ ((l.length : Int) = 3) := by omega
        have q4 : ¬ ((l.length : Int) = 4) := by omega
        have q5 : ¬ ((l.length : Int) = 5) := by omega
        rw [hg]
        clear hg h3 h4 h5
        go_enter Tryz.func23, Tryz.ntmps23
        go_wp2_with fail
        obtain ⟨g0, g1, g2, g3⟩ := blkS hb
        refine bodyPost_ret (v := .agg #[.int .i64 0, .string ⟨#[]⟩, .string ⟨#[]⟩, .string ⟨#[]⟩]) (by simp [results, Tryz.results23, go_sem, g0, g1, g2, g3]; try rfl) rfl ⟨rfl, hO1⟩
theorem pair_put {r : ByteArray × Int} {e : Ending} (h : PutP r e) : e = .returned (.tuple #[.string r.1, .int .i64 r.2]) := h
set_option maxRecDepth 100000 in
set_option maxHeartbeats 4000000 in
theorem of_any (t : ByteArray) (w : World) (hs : t.size ≤ 1048576) (hW : WordsAt w) (hT : Tabs w) (hM : MaxC w) : Calls Tryz.prog 12 #[.string t] w fun e w' => SpotP (spOf t) e ∧ Own [] w w' := by
  obtain ⟨R, hR⟩ : ∃ R, spOf t = R := ⟨_, rfl⟩
  rw [hR]
  unfold spOf at hR
  have hO1 : Own [] w (w.alloc (.cells #[.int .i64 0, .string ⟨#[]⟩, .string ⟨#[]⟩, .string ⟨#[]⟩] 49)) := (Own.refl _ _).alloc _
  have hb := heap_alloc_new w (.cells #[.int .i64 0, .string ⟨#[]⟩, .string ⟨#[]⟩, .string ⟨#[]⟩] 49)
  have cS := Lib.hid (split_any t (w.alloc (.cells #[.int .i64 0, .string ⟨#[]⟩, .string ⟨#[]⟩, .string ⟨#[]⟩] 49)) hs)
  have cG := Lib.hid (fun v W h hW => guess_any (levels t) v W h hW)
  have cP := Lib.hid (fun W hW hT hM => put_any (spGuess (levels t)) W hW hT hM)
  generalize spGuess (levels t) = g at *
  obtain ⟨r, hr⟩ : ∃ r, spPut g = r := ⟨_, rfl⟩
  rw [hr] at hR cP
  obtain ⟨rt, re⟩ := r
  clear hr
  replace hO1 := Lib.hid hO1
  replace hb := Lib.hid hb
  go_enter Tryz.func12, Tryz.ntmps12
  go_wp2_with fail
  refine cS.out.mono ?_
  rintro e w1 ⟨v, rfl, hSl, hO⟩
  have hRd := hSl.reads lEnc_len
  clear hSl
  replace hO1 : Hid (Own [] w w1) := Lib.hid (hO1.out.trans hO)
  replace hb := Lib.hid (hO.heap hb.out (by simp))
  clear hO cS
  go_wp2_with fail
  refine (cG.out v w1 hRd (hW.own hO1.out)).mono ?_
  rintro e w2 ⟨he, hO⟩
  unfold SpotP at he
  subst he
  replace hO1 : Hid (Own [] w w2) := Lib.hid (hO1.out.trans hO)
  replace hb := Lib.hid (hO.heap hb.out (by simp))
  clear hO cG hRd
  have hO3 : Own [] w (w2.alloc (.cells #[.int .i64 g.k, .string g.g, .string g.n, .string g.d] 49)) := hO1.out.alloc _
  have hb3 := heap_alloc_new w2 (.cells #[.int .i64 g.k, .string g.g, .string g.n, .string g.d] 49)
  have hb0 := ((Own.refl [] w2).alloc (.cells #[.int .i64 g.k, .string g.g, .string g.n, .string g.d] 49)).heap hb.out (by simp)
  go_wp2_with fail
  refine (cP.out _ (hW.own hO3) (hT.own hO3 (by simp)) (hM.own hO3)).mono ?_
  rintro e w3 ⟨he, hO⟩
  replace he := pair_put he
  subst he
  have hO4 : Own [] w w3 := hO3.trans hO
  have hc3 := hO.heap hb3 (by simp)
  have hc0 := hO.heap hb0 (by simp)
  clear hO hO3 hb3 hb0 hb hO1 cP
  obtain ⟨f0, f1, f2, f3⟩ := blkS hc3
  obtain ⟨y0, y1, y2, y3⟩ := blkS hc0
  obtain ⟨z0, z1, z2, z3, zl⟩ := fzS hc0
  have hr1 := setS hc0 (.int .i64 0) (.string ⟨#[]⟩) (.string ⟨#[]⟩) (.string ⟨#[]⟩)
  have hr2 := setS hc0 (.int .i64 g.k) (.string g.g) (.string g.n) (.string g.d)
  have ho1 := ownS hO4 (Nat.le_refl _) (.int .i64 0) (.string ⟨#[]⟩) (.string ⟨#[]⟩) (.string ⟨#[]⟩)
  have ho2 := ownS hO4 (Nat.le_refl _) (.int .i64 g.k) (.string g.g) (.string g.n) (.string g.d)
  clear hO4 hc0 hc3
  by_cases hre : re = 0
  · by_cases hrt : rt = t
    · rw [if_pos ⟨hre, hrt⟩] at hR
      subst hR hre hrt
      clear hr1 ho1
      go_wp2_with fail
      obtain ⟨g0, g1, g2, g3⟩ := blkS hr2
      refine bodyPost_ret (v := .agg #[.int .i64 g.k, .string g.g, .string g.n, .string g.d]) (by simp [results, Tryz.results12, go_sem, g0, g1, g2, g3]; try rfl) rfl ⟨rfl, ho2⟩
    · rw [if_neg (fun h => hrt h.2)] at hR
      subst hR hre
      clear hr2 ho2
      have hq : (rt.toList == t.toList) = false := by
        rw [beq_eq_false_iff_ne]
        exact fun h => hrt (by rw [← mkB_back rt, h, mkB_back])
      have hq2 : (!rt.toList == t.toList) = true := by rw [hq]; rfl
      go_wp2_with fail
      obtain ⟨g0, g1, g2, g3⟩ := blkS hr1
      refine bodyPost_ret (v := .agg #[.int .i64 0, .string ⟨#[]⟩, .string ⟨#[]⟩, .string ⟨#[]⟩]) (by simp [results, Tryz.results12, go_sem, g0, g1, g2, g3]; try rfl) rfl ⟨rfl, ho1⟩
  · rw [if_neg (fun h => hre h.1)] at hR
    subst hR
    clear hr2 ho2
    go_wp2_with fail
    obtain ⟨g0, g1, g2, g3⟩ := blkS hr1
    refine bodyPost_ret (v := .agg #[.int .i64 0, .string ⟨#[]⟩, .string ⟨#[]⟩, .string ⟨#[]⟩]) (by simp [results, Tryz.results12, go_sem, g0, g1, g2, g3]; try rfl) rfl ⟨rfl, ho1⟩
end Go.Proofs.YtecociaolohfmaaGreatDoor
