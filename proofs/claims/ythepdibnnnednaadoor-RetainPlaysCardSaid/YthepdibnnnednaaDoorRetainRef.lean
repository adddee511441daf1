/- The document's store (crierref27) in memory: find, Get, Find, Keep. -/
import Derived.Test.YthepdibnnnednaaDoorRetainDoc
import Derived.Test.YthepdibnnnednaaDoorRetainSort
import Derived.Test.YthepdibnnnednaaDoorDocMatch
namespace Go.Proofs.YthepdibnnnednaaDoor
open Go.RowKit Go.Lib Go.Shelf Go.Sort

theorem row_set {w : World} {b : Nat} {cur : Array Value} {T : TypeId} (h : w.heap[b]? = some (.cells cur T (0, 0))) (k : Nat) (u : Value) : (w.setCell ⟨b, k, none⟩ u).heap[b]? = some (.cells (cur.setIfInBounds k u) T (0, 0)) := heap_setCell_same _ _ _ _ _ _ h
theorem setCell_cell {w : World} {b k : Nat} {cur : Array Value} {T : TypeId} (h : w.heap[b]? = some (.cells cur T (0, 0))) (hk : k < cur.size) (u : Value) : (w.setCell ⟨b, k, none⟩ u).cell? ⟨b, k, none⟩ = some u := by
  rw [cell_of_row _ _ k _ _ _ (heap_setCell_same _ _ _ _ _ _ h)]
  simp [hk]
structure DocS (w : World) (xb : Nat) (v : Value) (r : List Ms) : Prop where
  row : w.heap[xb]? = some (.cells #[v] 40 (0, 0))
  own : Sl 26 Ms.cells 4 0 w v r
  ne : v.ownBlock ≠ some xb
theorem DocS.own' {S : List Nat} {w w' : World} {xb : Nat} {v : Value} {r : List Ms} (h : DocS w xb v r) (ho : Own S w w') (hx : xb ∉ S) (hS : ∀ b, v.ownBlock = some b → b ∉ S) : DocS w' xb v r :=
  ⟨ho.heap h.row hx, h.own.own ho hS, h.ne⟩
theorem DocS.nil' {w w' : World} {xb : Nat} {v : Value} {r : List Ms} (h : DocS w xb v r) (ho : Own [] w w') : DocS w' xb v r := h.own' ho (by simp) (by simp)

set_option maxRecDepth 100000 in
set_option maxHeartbeats 1000000 in
theorem sfind_any (xb : Nat) (v : Value) (r : List Ms) (n : ByteArray) (w : World) (h : DocS w xb v r) (hl : r.length ≤ 32) :
    Calls Tryd.prog 23 #[.pointer (some ⟨xb, 0, none⟩), .string n] w fun e w' =>
      e = .returned (.tuple #[.int .i64 (rPos tKey r n : Nat), .bool (rHas tKey r n)]) ∧ Own [] w w' := by
  have c1 : w.cell? ⟨xb, 0, none⟩ = some v := cell_of_row w xb 0 _ _ _ h.row
  have hrd := h.own.reads msCells_len
  obtain ⟨a, cap, rfl⟩ := h.own.sl
  have hle := rPos_le (key := tKey) r n
  have hlb := fun k (h : k < rPos tKey r n) => rPos_lt h
  have hat := fun p (h : r[rPos tKey r n]? = some p) => rPos_at h
  replace hlb := Lib.hid hlb
  replace hat := Lib.hid hat
  replace hrd := Lib.hid hrd
  generalize hH : rHas tKey r n = has
  unfold rHas at hH
  generalize hK : rPos tKey r n = K at *
  generalize hN : r.length = N at *
  replace hK := Lib.hid hK
  replace hN := Lib.hid hN
  replace hH := Lib.hid hH
  clear h
  go_enter Tryd.func23, Tryd.ntmps23
  go_wp2_with fail
  go_loopg [6] (K + 1) (fun gk i wr => ∃ k : Nat, k ≤ K ∧ gk = K + 1 - k ∧ i = .int .i64 k ∧ wr = w)
  case atStart => exact ⟨0, by omega, rfl, rfl, rfl⟩
  case round =>
    obtain ⟨k, hk, rfl, rfl, rfl⟩ := hrel
    by_cases hkK : k < K
    · obtain ⟨p, hp, hs⟩ := hlb.out k hkK
      have hkN : k < N := by omega
      obtain ⟨b, o, rfl, hc⟩ := hrd.out.at_ msCells_len (by have := hN.out; omega)
      have e0 : wr.cell? ⟨b, o + k * 4, none⟩ = some (.string p.top) := hc k p 0 _ hp rfl
      have hs' : Op.bytesLess p.top.toList n.toList = true := hs
      clear hp hs hc
      go_wp2_with fail
      go_roundg (K + 1 - (k + 1))
      case measure => omega
      case rel => exact ⟨k + 1, by omega, rfl, by go_num, rfl⟩
    · obtain rfl : k = K := by omega
      by_cases hKN : k < N
      · obtain ⟨p, hp⟩ : ∃ p, r[k]? = some p := ⟨_, List.getElem?_eq_getElem (by have := hN.out; omega)⟩
        obtain ⟨b, o, rfl, hc⟩ := hrd.out.at_ msCells_len (by have := hN.out; omega)
        have hs := hat.out p hp
        have e0 : wr.cell? ⟨b, o + k * 4, none⟩ = some (.string p.top) := hc k p 0 _ hp rfl
        have hs' : Op.bytesLess p.top.toList n.toList = false := hs
        have hH' := hH.out
        rw [hp] at hH'
        simp only at hH'
        have hkd : decide ((k : Int) < N) = true := by simp; omega
        have hz : (0 : Int) ≤ k := by omega
        clear hp hs hc
        go_wp2_with fail
        go_quiet (fail)
        go_wp2_with fail
        go_ret2
        exact ⟨rfl, (Own.refl _ _).drewN _⟩
      · have hnone : r[k]? = none := List.getElem?_eq_none (by have := hN.out; omega)
        have hH' := hH.out
        rw [hnone] at hH'
        simp only at hH'
        subst hH'
        have hkd : decide ((k : Int) < N) = false := by simp; omega
        clear hnone
        go_wp2_with fail
        go_quiet (fail)
        go_wp2_with fail
        go_ret2
        exact ⟨rfl, (Own.refl _ _).drewN _⟩

set_option maxRecDepth 100000 in
set_option maxHeartbeats 1000000 in
theorem sget_any (xb : Nat) (v : Value) (r : List Ms) (n : ByteArray) (w : World) (h : DocS w xb v r) (hl : r.length ≤ 32) :
    Calls Tryd.prog 14 #[.pointer (some ⟨xb, 0, none⟩), .string n] w fun e w' =>
      e = .returned (.tuple #[(dGet r n).1.val, .bool (dGet r n).2]) ∧ Own [] w w' := by
  have hA : Own [] w (w.alloc (.cells Ms.zero.cells.toArray 26)) := (Own.refl _ _).alloc _
  have F := sfind_any xb v r n _ (h.nil' hA) hl
  have hK1 := fun w' (ho : Own [] (w.alloc (.cells Ms.zero.cells.toArray 26)) w') => (cell_of_row w' xb 0 _ _ _ ((h.nil' hA).nil' ho).row : w'.cell? ⟨xb, 0, none⟩ = some v)
  have hKr := fun w' (ho : Own [] (w.alloc (.cells Ms.zero.cells.toArray 26)) w') => ((h.nil' hA).nil' ho).own.reads msCells_len
  have hrow : (w.alloc (.cells Ms.zero.cells.toArray 26)).heap[w.heap.size]? = some (.cells Ms.zero.cells.toArray 26 (0, 0)) := heap_alloc_new _ _
  obtain ⟨a, cap, rfl⟩ := h.own.sl
  unfold dGet
  cases hb : rHas tKey r n with
  | false =>
    rw [hb] at F
    simp only [Bool.false_eq_true, if_false, Ms.zero, Ms.cells, Ms.val] at F hA hrow ⊢
    replace F := Lib.hid F
    replace hA := Lib.hid hA
    replace hrow := Lib.hid hrow
    clear hK1 hKr hb h
    go_enter Tryd.func14, Tryd.ntmps14
    go_wp2_with (go_at_call 23; refine F.out.mono ?_; rintro e w2 ⟨rfl, hO2⟩; have hr2 := hO2.heap hrow.out (by simp); have f0 : w2.frozen? ⟨w.heap.size, 0, none⟩ = false := frozen_of_row _ _ _ _ _ hr2; have f1 : w2.frozen? ⟨w.heap.size, 1, none⟩ = false := frozen_of_row _ _ _ _ _ hr2; have f2 : w2.frozen? ⟨w.heap.size, 2, none⟩ = false := frozen_of_row _ _ _ _ _ hr2; have f3 : w2.frozen? ⟨w.heap.size, 3, none⟩ = false := frozen_of_row _ _ _ _ _ hr2; have c0 : w2.cell? ⟨w.heap.size, 0, none⟩ = some (.string ByteArray.empty) := cell_of_row w2 _ 0 _ _ _ hr2; have c1 : w2.cell? ⟨w.heap.size, 1, none⟩ = some (.string ByteArray.empty) := cell_of_row w2 _ 1 _ _ _ hr2; have c2 : w2.cell? ⟨w.heap.size, 2, none⟩ = some (.int .i64 0) := cell_of_row w2 _ 2 _ _ _ hr2; have c3 : w2.cell? ⟨w.heap.size, 3, none⟩ = some (.bool false) := cell_of_row w2 _ 3 _ _ _ hr2; have q0 := setCell_cell hr2 (k := 0) (by simp) (.string ⟨#[]⟩); have u0 := row_set hr2 0 (.string ⟨#[]⟩); have q1 := setCell_cell u0 (k := 1) (by simp) (.string ⟨#[]⟩); have u1 := row_set u0 1 (.string ⟨#[]⟩); have q2 := setCell_cell u1 (k := 2) (by simp) (.int .i64 0); have u2 := row_set u1 2 (.int .i64 0); have q3 := setCell_cell u2 (k := 3) (by simp) (.bool false); clear u0 u1 u2; have hl2 := lt_of_heap hr2; replace hr2 := Lib.hid hr2; replace hO2 := Lib.hid hO2)
    refine bodyPost_ret (v := .tuple #[.agg #[.string ⟨#[]⟩, .string ⟨#[]⟩, .int .i64 0, .bool false], .bool false]) (by simp [results, Tryd.results14, go_sem, q0, q1, q2, q3]) rfl ⟨by rfl, ((((hA.out.trans hO2.out).setCell (.inr (Nat.le_refl _)) _).setCell (.inr (Nat.le_refl _)) _).setCell (.inr (Nat.le_refl _)) _).setCell (.inr (Nat.le_refl _)) _⟩
  | true =>
    rw [hb] at F
    simp only [if_true]
    obtain ⟨p, hp, _⟩ := rHas_some hb
    have hgd : r.getD (rPos tKey r n) Ms.zero = p := by simp [List.getD, hp]
    rw [hgd]
    have hKl : rPos tKey r n < r.length := (List.getElem?_eq_some_iff.1 hp).1
    generalize rPos tKey r n = K at *
    obtain ⟨p1, p2, p3, p4⟩ := p
    have hK2 : ∀ w', Own [] (w.alloc (.cells Ms.zero.cells.toArray 26)) w' → ∃ b o, a = some ⟨b, o, none⟩ ∧ w'.cell? ⟨b, o + K * 4, none⟩ = some (.string p1) ∧ w'.cell? ⟨b, o + K * 4 + 1, none⟩ = some (.string p2) ∧ w'.cell? ⟨b, o + K * 4 + 2, none⟩ = some (.int .i64 p3) ∧ w'.cell? ⟨b, o + K * 4 + 3, none⟩ = some (.bool p4) := fun w' ho => by
      obtain ⟨b, o, he, hc⟩ := (hKr w' ho).at_ msCells_len (by omega)
      exact ⟨b, o, he, hc K _ 0 _ hp rfl, hc K _ 1 _ hp rfl, hc K _ 2 _ hp rfl, hc K _ 3 _ hp rfl⟩
    simp only [Ms.zero, Ms.cells, Ms.val] at F hA hrow hK1 hK2 ⊢
    replace F := Lib.hid F
    replace hA := Lib.hid hA
    replace hrow := Lib.hid hrow
    replace hK1 := Lib.hid hK1
    replace hK2 := Lib.hid hK2
    clear hKr hb h hp hgd
    have z0 : (0 : Int) ≤ K := by omega
    have z1 : (K : Int) < r.length := by omega
    go_enter Tryd.func14, Tryd.ntmps14
    go_wp2_with (go_at_call 23; refine F.out.mono ?_; rintro e w2 ⟨rfl, hO2⟩; have hr2 := hO2.heap hrow.out (by simp); have f0 : w2.frozen? ⟨w.heap.size, 0, none⟩ = false := frozen_of_row _ _ _ _ _ hr2; have f1 : w2.frozen? ⟨w.heap.size, 1, none⟩ = false := frozen_of_row _ _ _ _ _ hr2; have f2 : w2.frozen? ⟨w.heap.size, 2, none⟩ = false := frozen_of_row _ _ _ _ _ hr2; have f3 : w2.frozen? ⟨w.heap.size, 3, none⟩ = false := frozen_of_row _ _ _ _ _ hr2; have c0 : w2.cell? ⟨w.heap.size, 0, none⟩ = some (.string ByteArray.empty) := cell_of_row w2 _ 0 _ _ _ hr2; have c1 : w2.cell? ⟨w.heap.size, 1, none⟩ = some (.string ByteArray.empty) := cell_of_row w2 _ 1 _ _ _ hr2; have c2 : w2.cell? ⟨w.heap.size, 2, none⟩ = some (.int .i64 0) := cell_of_row w2 _ 2 _ _ _ hr2; have c3 : w2.cell? ⟨w.heap.size, 3, none⟩ = some (.bool false) := cell_of_row w2 _ 3 _ _ _ hr2; have q0 := setCell_cell hr2 (k := 0) (by simp) (.string p1); have u0 := row_set hr2 0 (.string p1); have q1 := setCell_cell u0 (k := 1) (by simp) (.string p2); have u1 := row_set u0 1 (.string p2); have q2 := setCell_cell u1 (k := 2) (by simp) (.int .i64 p3); have u2 := row_set u1 2 (.int .i64 p3); have q3 := setCell_cell u2 (k := 3) (by simp) (.bool p4); clear u0 u1 u2; have hl2 := lt_of_heap hr2; have k1 := hK1.out w2 hO2; obtain ⟨b, o, rfl, d0, d1, d2, d3⟩ := hK2.out w2 hO2; replace hr2 := Lib.hid hr2; replace hO2 := Lib.hid hO2)
    refine bodyPost_ret (v := .tuple #[.agg #[.string p1, .string p2, .int .i64 p3, .bool p4], .bool true]) (by simp [results, Tryd.results14, go_sem, q0, q1, q2, q3]) rfl ⟨by rfl, ((((hA.out.trans hO2.out).setCell (.inr (Nat.le_refl _)) _).setCell (.inr (Nat.le_refl _)) _).setCell (.inr (Nat.le_refl _)) _).setCell (.inr (Nat.le_refl _)) _⟩

set_option maxRecDepth 100000 in
set_option maxHeartbeats 4000000 in
theorem sfilt_any (xb : Nat) (v : Value) (r : List Ms) (f : ByteArray) (w : World) (h : DocS w xb v r) (hl : r.length ≤ 32) :
    Calls Tryd.prog 17 #[.pointer (some ⟨xb, 0, none⟩), .string f] w fun e w' =>
      ∃ v2, e = .returned v2 ∧ Sl 26 Ms.cells 4 w.heap.size w' v2 (r.filter fun x => mMatch f x.top) ∧ Own [] w w' := by
  have hK := fun w' (ho : Own [] w w') => (cell_of_row w' xb 0 _ _ _ (h.nil' ho).row : w'.cell? ⟨xb, 0, none⟩ = some v)
  have hKr := fun w' (ho : Own [] w w') => (h.nil' ho).own.reads msCells_len
  obtain ⟨a, cap, rfl⟩ := h.own.sl
  replace hK := Lib.hid hK
  replace hKr := Lib.hid hKr
  clear h
  obtain ⟨n, hn⟩ : ∃ n, r.length = n := ⟨_, rfl⟩
  rw [hn] at hl hK hKr
  replace hn := Lib.hid hn
  go_enter Tryd.func17, Tryd.ntmps17
  go_wp2_with fail
  go_loopg [5, 6] (n + 1) (fun g s5 s6 wr => ∃ (i : Nat) (T : List Ms), s6 = .int .i64 i ∧ g = n + 1 - i ∧ i ≤ n ∧ Sl 26 Ms.cells 4 w.heap.size wr s5 T ∧ Own [] w wr ∧ T.length ≤ i ∧ Aside (T = (r.take i).filter fun x => mMatch f x.top))
  case atStart => exact ⟨0, [], rfl, rfl, Nat.zero_le _, Sl.nil _ _ _, Own.refl _ _, Nat.le_refl _, (rfl : [] = List.filter _ (List.take 0 r))⟩
  case round =>
    obtain ⟨i, T, rfl, hg, hi, hS, hO, hTl, hA⟩ := hrel
    replace hA : T = (r.take i).filter fun x => mMatch f x.top := hA
    have k0 := hK.out wr hO
    have hw1 : IntKind.i64.wrap ((i : Int) + 1) = (i : Int) + 1 := IntWalk.i64_in _ (by omega)
    obtain ⟨sa, sc, hsv⟩ := hS.sl
    subst hsv
    by_cases hlt : i < n
    · have hlr : i < r.length := by have := hn.out; omega
      obtain ⟨x, hx⟩ : ∃ x, r[i]? = some x := ⟨_, List.getElem?_eq_getElem hlr⟩
      have htf : (r.take (i + 1)).filter (fun x => mMatch f x.top) = T ++ if mMatch f x.top then [x] else [] := by
        obtain ⟨hi2, hx2⟩ := List.getElem?_eq_some_iff.1 hx
        rw [List.take_succ_eq_append_getElem hi2, List.filter_append, hx2, ← hA]
        congr 1
        by_cases hq : mMatch f x.top <;> simp [hq]
      obtain ⟨b0, o0, rfl, hca⟩ := (hKr.out wr hO).at_ msCells_len (by omega)
      obtain ⟨x1, x2, x3, x4⟩ := x
      simp only at htf
      have d0 : wr.cell? ⟨b0, o0 + i * 4, none⟩ = some (.string x1) := by simpa using hca i _ 0 _ hx rfl
      have d1 : wr.cell? ⟨b0, o0 + i * 4 + 1, none⟩ = some (.string x2) := by rw [Nat.add_assoc]; exact hca i _ 1 _ hx rfl
      have d2 : wr.cell? ⟨b0, o0 + i * 4 + 2, none⟩ = some (.int .i64 x3) := by rw [Nat.add_assoc]; exact hca i _ 2 _ hx rfl
      have d3 : wr.cell? ⟨b0, o0 + i * 4 + 3, none⟩ = some (.bool x4) := by rw [Nat.add_assoc]; exact hca i _ 3 _ hx rfl
      have hi1 : (i : Int) < n := by omega
      have hi0 : (0 : Int) ≤ i := by omega
      have M := dmatch_any f x1 wr
      have dl := block_lt_of_cell d0
      have hdl := fun W (ho : Own [] wr W) => And.intro ((ho.cell (p := ⟨b0, o0 + i * 4, none⟩) dl (by simp)).trans d0) (And.intro ((ho.cell (p := ⟨b0, o0 + i * 4 + 1, none⟩) dl (by simp)).trans d1) (And.intro ((ho.cell (p := ⟨b0, o0 + i * 4 + 2, none⟩) dl (by simp)).trans d2) ((ho.cell (p := ⟨b0, o0 + i * 4 + 3, none⟩) dl (by simp)).trans d3)))
      have hk2 := fun W (ho : Own [] wr W) => hK.out W (hO.trans ho)
      replace hdl := Lib.hid hdl
      replace hk2 := Lib.hid hk2
      replace hg := Lib.hid hg
      replace hS := Lib.hid hS
      replace hO := Lib.hid hO
      clear hca hx hlr hA
      cases hmm : mMatch f x1
      · rw [hmm] at M htf
        simp only [Bool.false_eq_true, if_false, List.append_nil] at htf
        have hT4 := Lib.hid htf.symm
        replace M := Lib.hid M
        clear htf hmm
        go_wp2_with (go_at_call 26; refine M.out.mono ?_; rintro e w5 ⟨rfl, hO5⟩; replace hO5 := Lib.hid hO5)
        go_roundg (n + 1 - (i + 1))
        case measure => have := hg.out; omega
        case rel => exact ⟨i + 1, T, by simp, rfl, by omega, hS.out.nil' hO5.out, hO.out.trans hO5.out, by omega, hT4.out⟩
      · rw [hmm] at M htf
        simp only [if_true] at htf
        obtain ⟨T2, hT2⟩ : ∃ T2, T ++ [(⟨x1, x2, x3, x4⟩ : Ms)] = T2 := ⟨_, rfl⟩
        rw [hT2] at htf
        have hT4 := Lib.hid htf.symm
        have hT5 : T2.length ≤ i + 1 := by rw [← hT2]; simp; omega
        replace hT2 := Lib.hid hT2
        replace M := Lib.hid M
        clear htf hmm
        go_wp2_with (first
          | (go_at_call 26; refine M.out.mono ?_; rintro e w5 ⟨rfl, hO5⟩; obtain ⟨e0, e1, e2, e3⟩ := hdl.out w5 hO5; have k5 := hk2.out w5 hO5; have hS5 := (hS.out.nil' hO5).nil' ((Own.refl [] w5).alloc (.cells #[.string x1, .string x2, .int .i64 x3, .bool x4] 26)); have hO6 := (hO.out.trans hO5).alloc (.cells #[.string x1, .string x2, .int .i64 x3, .bool x4] 26); have hRb := Reads.new (enc := Ms.cells) (T := 26) w5 ⟨x1, x2, x3, x4⟩ 1; replace hRb := Lib.hid hRb; replace hS5 := Lib.hid hS5; replace hO6 := Lib.hid hO6; clear hO5)
          | (at_builtin; refine wpList_append_new2 rfl (.tmp 26) (.tmp 34) rfl mElem hO6.out rfl hS5.out rfl hRb.out (by simp only [List.length_singleton]; omega) (by unfold maxLen; simp only [List.length_singleton]; omega) ?_; intro va wa hSa hOa _ hg2 hg3; rw [hT2.out] at hSa; clear hg2 hg3; obtain ⟨aa, ca, rfl⟩ := hSa.sl; replace hOa := Lib.hid hOa; replace hSa := Lib.hid hSa))
        go_roundg (n + 1 - (i + 1))
        case measure => have := hg.out; omega
        case rel => exact ⟨i + 1, T2, by simp, rfl, by omega, hSa.out, hOa.out, hT5, hT4.out⟩
    · obtain rfl : i = n := by omega
      have hi1 : ¬ (i : Int) < i := by omega
      rw [List.take_of_length_le (by have := hn.out; omega)] at hA
      replace hA := Lib.hid hA
      replace hS := Lib.hid hS
      replace hO := Lib.hid hO
      replace hg := Lib.hid hg
      go_wp2_with fail
      go_ret
      exact ⟨_, rfl, by rw [← hA.out]; exact hS.out, hO.out⟩
end Go.Proofs.YthepdibnnnednaaDoor
