/- The store of package retain: what each of its calls does to it. -/
import Derived.Test.YthepdibnnnednaaDoorUtf
import Derived.Test.YthepdibnnnednaaDoorMaps
import Derived.Test.YthepdibnnnednaaDoorRows
import Derived.Handy
namespace Go.Proofs.YthepdibnnnednaaDoor
open Go.RowKit

structure Ms where
  top : ByteArray
  text : ByteArray
  qos : Int
  ret : Bool
  deriving DecidableEq
def Ms.cells (x : Ms) : List Value := [.string x.top, .string x.text, .int .i64 x.qos, .bool x.ret]
def Ms.val (x : Ms) : Value := .agg #[.string x.top, .string x.text, .int .i64 x.qos, .bool x.ret]
def Ms.zero : Ms := ⟨ByteArray.empty, ByteArray.empty, 0, false⟩
instance : Inhabited Ms := ⟨Ms.zero⟩
def Ms.stays (x : Ms) : Ms := { x with ret := true }
abbrev Msgs := List (ByteArray × Ms)
def rKeep (l : Msgs) (m : Ms) : (Bool × Int) × Msgs :=
  if lvName m.top = false then ((false, 13), l)
  else if m.text.toList.isEmpty then (((aGet l m.top).isSome, 0), aDel l m.top)
  else if (aGet l m.top).isSome = false ∧ 32 ≤ l.length then ((false, 6), l)
  else (((aGet l m.top).isSome, 0), aPut l m.top m.stays)
def rGet (l : Msgs) (t : ByteArray) : Ms × Bool := match aGet l t with | some m => (m, true) | none => (Ms.zero, false)

structure Store (w : World) (b m : Nat) (l : Msgs) : Prop where
  ne : b ≠ m
  row : w.heap[b]? = some (.cells #[.map (some m)] 50 (0, 0))
  map : MapP Value.string Ms.val w m l
theorem Store.own {S : List Nat} {w w' : World} {b m : Nat} {l : Msgs} (h : Store w b m l) (ho : Own S w w') (hb : b ∉ S) (hm : m ∉ S) : Store w' b m l := ⟨h.ne, ho.heap h.row hb, h.map.own ho hm⟩
theorem Store.lt {w : World} {b m : Nat} {l : Msgs} (h : Store w b m l) : b < w.heap.size ∧ m < w.heap.size := ⟨lt_of_heap h.row, h.map.lt⟩

theorem rKind : KeyKind Tryd.prog 9 Value.string := string_kind Tryd.underlying9
theorem rMapT : Tryd.prog.underlying 48 = some (.map 9 26) := Tryd.underlying48
theorem rZero (w : World) : (zeroValue 26).run Tryd.prog w = .ok Ms.zero.val w := by kernel_rfl
theorem Store.nodup {w : World} {b m : Nat} {l : Msgs} (h : Store w b m l) : (l.map (·.1)).Nodup := h.map.nodup rKind

/-! ### walks -/
theorem none_no (b m : Nat) (w : World) (hm : w.cell? ⟨b, 0, none⟩ = some (.map (some m))) :
    Calls Tryd.prog 20 #[.pointer (some ⟨b, 0, none⟩)] w fun e w' => e = .returned (.bool false) ∧ w = w' := by
  have hq := fun w r => run_eql_map_nil w 48 9 26 r Tryd.underlying48
  go_enter Tryd.func20, Tryd.ntmps20
  go_wp2
  go_ret
  exact ⟨rfl, rfl⟩
theorem new_any (w : World) : Calls Tryd.prog 8 #[] w fun e w' => ∃ b m, e = .returned (.pointer (some ⟨b, 0, none⟩)) ∧ Store w' b m [] ∧ w.heap.size ≤ b ∧ w.heap.size ≤ m ∧ Own [] w w' := by
  have hmm := @run_makeMap Tryd.prog
  go_enter Tryd.func8, Tryd.ntmps8
  go_wp2
  go_ret
  refine ⟨w.heap.size + 1, w.heap.size, rfl, ⟨by omega, heap_alloc2_new _ _ _, ?_⟩, by omega, Nat.le_refl _, ((Own.refl _ _).alloc _).alloc _⟩
  exact (MapP.made w).of_heap (Below.heap_alloc _ _ _ (by simp))
theorem len_any (b m : Nat) (l : Msgs) (w : World) (h : Store w b m l) :
    Calls Tryd.prog 12 #[.pointer (some ⟨b, 0, none⟩)] w fun e w' => e = .returned (.int .i64 l.length) ∧ w = w' := by
  have hm : w.cell? ⟨b, 0, none⟩ = some (.map (some m)) := cell_of_row w b 0 _ _ _ h.row
  have hlen := h.map.len_run rMapT
  clear h
  go_enter Tryd.func12, Tryd.ntmps12
  go_wp2_with ((go_at_call 20; refine (none_no _ _ _ hm).mono ?_; rintro e w' ⟨rfl, rfl⟩))
  go_ret
  exact ⟨rfl, rfl⟩
theorem get_any (b m : Nat) (l : Msgs) (t : ByteArray) (w : World) (h : Store w b m l) :
    Calls Tryd.prog 10 #[.pointer (some ⟨b, 0, none⟩), .string t] w fun e w' => e = .returned (.tuple #[(rGet l t).1.val, .bool (rGet l t).2]) ∧ Own [] w w' := by
  have hm : w.cell? ⟨b, 0, none⟩ = some (.map (some m)) := cell_of_row w b 0 _ _ _ h.row
  have hbl := lt_of_heap h.row
  have hm2 : (w.alloc (.cells Ms.zero.cells.toArray 26)).cell? ⟨b, 0, none⟩ = some (.map (some m)) := (((Own.refl [] w).alloc _).cell hbl (by simp)).trans hm
  have hS := h.own ((Own.refl [] w).alloc (.cells Ms.zero.cells.toArray 26)) (by simp) (by simp)
  unfold rGet
  cases hg : aGet l t with
  | none =>
    have hlk := hS.map.lookup_no rKind rMapT t (rZero _) hg true
    simp only [if_true, Ms.val, Ms.zero, Ms.cells] at hlk hm2
    clear h hS hg
    go_enter Tryd.func10, Tryd.ntmps10
    go_wp2_with ((go_at_call 20; refine (none_no _ _ _ hm2).mono ?_; rintro e w' ⟨rfl, rfl⟩))
    go_returns
    exact ⟨rfl, ((Own.refl _ _).alloc _).alloc _⟩
  | some x =>
    obtain ⟨x1, x2, x3, x4⟩ := x
    have hlk := hS.map.lookup_yes rKind rMapT t hg true
    simp only [if_true, Ms.val, Ms.zero, Ms.cells] at hlk hm2
    clear h hS hg
    go_enter Tryd.func10, Tryd.ntmps10
    go_wp2_with ((go_at_call 20; refine (none_no _ _ _ hm2).mono ?_; rintro e w' ⟨rfl, rfl⟩))
    go_returns
    exact ⟨rfl, ((Own.refl _ _).alloc _).alloc _⟩

theorem keep_bad (b m : Nat) (l : Msgs) (x : Ms) (w : World) (h : Store w b m l) (hT : Tabs w) (hn : lvName x.top = false) :
    Calls Tryd.prog 9 #[.pointer (some ⟨b, 0, none⟩), x.val] w fun e w' => e = .returned (.tuple #[.bool false, .int .i64 13]) ∧ Own [] w w' := by
  obtain ⟨x1, x2, x3, x4⟩ := x
  have hm : w.cell? ⟨b, 0, none⟩ = some (.map (some m)) := cell_of_row w b 0 _ _ _ h.row
  have hbl := lt_of_heap h.row
  have hm2 : (w.alloc (.cells #[.string x1, .string x2, .int .i64 x3, .bool x4] 26)).cell? ⟨b, 0, none⟩ = some (.map (some m)) := (((Own.refl [] w).alloc _).cell hbl (by simp)).trans hm
  have cN := fun w hT => name_any x1 w hT
  simp only at hn
  rw [hn] at cN
  replace cN := Lib.hid (cN _ (hT.below ((Below.refl _ w).alloc (Nat.le_refl _) (.cells #[.string x1, .string x2, .int .i64 x3, .bool x4] 26))))
  replace hn := Lib.hid hn
  replace hT := Lib.hid hT
  clear h
  unfold Ms.val
  go_enter Tryd.func9, Tryd.ntmps9
  go_wp2_with (first | (go_at_call 20; refine (none_no _ _ _ hm2).mono ?_; rintro e w' ⟨rfl, rfl⟩) | (go_at_call 21; refine cN.out.mono ?_; rintro e w1 ⟨rfl, hO⟩))
  go_ret2
  exact ⟨rfl, ((Own.refl [] w).alloc _).trans hO⟩

theorem Store.look {w : World} {b m : Nat} {l : Msgs} (h : Store w b m l) (t : ByteArray) :
    (Instr.lookup 48 (.map (some m)) (.string t) true).run Tryd.prog w = .ok (.tuple #[(rGet l t).1.val, .bool (rGet l t).2]) w := by
  unfold rGet
  cases hg : aGet l t with
  | none => exact h.map.lookup_no rKind rMapT t (rZero _) hg true
  | some y => exact h.map.lookup_yes rKind rMapT t hg true
theorem rGet_is (l : Msgs) (t : ByteArray) : (aGet l t).isSome = (rGet l t).2 := by
  unfold rGet
  cases aGet l t <;> rfl
def zeroMsg : Obj := .cells #[.string ⟨#[]⟩, .string ⟨#[]⟩, .int .i64 0, .bool false] 26

set_option maxRecDepth 100000 in
set_option maxHeartbeats 4000000 in
theorem keep_del (b m : Nat) (l : Msgs) (x : Ms) (w : World) (h : Store w b m l) (hT : Tabs w) (hn : lvName x.top = true) (ht : x.text.toList.isEmpty = true) :
    Calls Tryd.prog 9 #[.pointer (some ⟨b, 0, none⟩), x.val] w fun e w' => e = .returned (.tuple #[.bool (aGet l x.top).isSome, .int .i64 0]) ∧ Store w' b m (aDel l x.top) ∧ Own [m] w w' := by
  obtain ⟨x1, x2, x3, x4⟩ := x
  simp only at hn ht ⊢
  have hm : w.cell? ⟨b, 0, none⟩ = some (.map (some m)) := cell_of_row w b 0 _ _ _ h.row
  have hbl := lt_of_heap h.row
  have hA1 := (Own.refl [] w).alloc (.cells #[.string x1, .string x2, .int .i64 x3, .bool x4] 26)
  have hm2 : (w.alloc (.cells #[.string x1, .string x2, .int .i64 x3, .bool x4] 26)).cell? ⟨b, 0, none⟩ = some (.map (some m)) := (hA1.cell hbl (by simp)).trans hm
  have cN := fun w hT => name_any x1 w hT
  rw [hn] at cN
  replace cN := Lib.hid (cN _ (hT.below ((Below.refl _ w).alloc (Nat.le_refl _) (.cells #[.string x1, .string x2, .int .i64 x3, .bool x4] 26))))
  have hc1 : (w.alloc (.cells #[.string x1, .string x2, .int .i64 x3, .bool x4] 26)).heap[w.heap.size]? = some (.cells #[.string x1, .string x2, .int .i64 x3, .bool x4] 26 (0, 0)) := heap_alloc_new _ _
  have hS := h.own hA1 (by simp) (by simp)
  have hml := h.lt.2
  replace hc1 := Lib.hid hc1
  replace hn := Lib.hid hn
  replace hT := Lib.hid hT
  replace hS := Lib.hid hS
  replace hA1 := Lib.hid hA1
  have LK := fun W (hW : Store W b m l) => hW.look x1
  clear h
  rw [rGet_is]
  generalize rGet l x1 = g at LK ⊢
  obtain ⟨⟨y1, y2, y3, y4⟩, is⟩ := g
  replace LK := Lib.hid LK
  unfold Ms.val
  go_enter Tryd.func9, Tryd.ntmps9
  go_wp2_with (go_at_call 20; refine (none_no _ _ _ hm2).mono ?_; rintro e w' ⟨rfl, rfl⟩)
  go_wp2_with fail
  refine cN.out.mono ?_
  rintro e w2 ⟨rfl, hO⟩
  have hc2 := hO.heap hc1.out (by simp)
  have hcs : w.heap.size < w2.heap.size := lt_of_heap hc2
  have k0 : w2.cell? ⟨w.heap.size, 0, none⟩ = some (.string x1) := cell_of_row w2 _ 0 _ _ _ hc2
  have k1 : w2.cell? ⟨w.heap.size, 1, none⟩ = some (.string x2) := cell_of_row w2 _ 1 _ _ _ hc2
  have k2 : w2.cell? ⟨w.heap.size, 2, none⟩ = some (.int .i64 x3) := cell_of_row w2 _ 2 _ _ _ hc2
  have k3 : w2.cell? ⟨w.heap.size, 3, none⟩ = some (.bool x4) := cell_of_row w2 _ 3 _ _ _ hc2
  have hS2 := hS.out.own hO (by simp) (by simp)
  have kb : w2.cell? ⟨b, 0, none⟩ = some (.map (some m)) := cell_of_row w2 b 0 _ _ _ hS2.row
  have hbl2 := hS2.lt.1
  have hml2 := hS2.lt.2
  have hD : Own [] w2 w2.drew := (Own.refl _ _).drew
  have hDA : Own [] w2 (w2.alloc zeroMsg).drew := ((Own.refl _ _).alloc _).drew
  have hSD := hS2.own hD (by simp) (by simp)
  have hSA := hS2.own hDA (by simp) (by simp)
  have lk1 := LK.out _ hSD
  have lk2 := LK.out _ hSA
  have hsw : Own [] w w2 := hA1.out.trans hO
  replace hc2 := Lib.hid hc2
  replace hS2 := Lib.hid hS2
  replace hsw := Lib.hid hsw
  clear hSD hSA hD hDA hO
  simp only [zeroMsg, Ms.val] at lk1 lk2
  have hD3 : Own [] w2 (w2.alloc (.cells #[.string y1, .string y2, .int .i64 y3, .bool y4] 26)).drew.drew := ((Own.refl _ _).alloc _).drew.drew
  obtain ⟨w4, hdel, hM4, hO4, _⟩ := (hS2.out.own hD3 (by simp) (by simp)).map.delete rKind rMapT x1 9 0
  have F : Aside (Store w4 b m (aDel l x1) ∧ Own [m] w w4) := ⟨⟨hS2.out.ne, hO4.heap ((hS2.out.own hD3 (by simp) (by simp)).row) (by simpa using hS2.out.ne), hM4⟩, (hsw.out.nil.trans hD3.nil).trans hO4⟩
  clear hD3 hM4 hO4
  go_wp2_with fail
  go_region
  all_goals
    go_wp2_with fail
    go_region
    all_goals
      go_wp2_with fail
      go_ret2
      exact ⟨rfl, F.out⟩

set_option maxRecDepth 100000 in
set_option maxHeartbeats 4000000 in
theorem keep_put (b m : Nat) (l : Msgs) (x : Ms) (w : World) (h : Store w b m l) (hT : Tabs w) (hn : lvName x.top = true) (ht : x.text.toList.isEmpty = false) (hr : ¬ ((aGet l x.top).isSome = false ∧ 32 ≤ l.length)) :
    Calls Tryd.prog 9 #[.pointer (some ⟨b, 0, none⟩), x.val] w fun e w' => e = .returned (.tuple #[.bool (aGet l x.top).isSome, .int .i64 0]) ∧ Store w' b m (aPut l x.top x.stays) ∧ Own [m] w w' := by
  obtain ⟨x1, x2, x3, x4⟩ := x
  simp only [Ms.stays] at hn ht hr ⊢
  have hm : w.cell? ⟨b, 0, none⟩ = some (.map (some m)) := cell_of_row w b 0 _ _ _ h.row
  have hbl := lt_of_heap h.row
  have hA1 := (Own.refl [] w).alloc (.cells #[.string x1, .string x2, .int .i64 x3, .bool x4] 26)
  have hm2 : (w.alloc (.cells #[.string x1, .string x2, .int .i64 x3, .bool x4] 26)).cell? ⟨b, 0, none⟩ = some (.map (some m)) := (hA1.cell hbl (by simp)).trans hm
  have cN := fun w hT => name_any x1 w hT
  rw [hn] at cN
  replace cN := Lib.hid (cN _ (hT.below ((Below.refl _ w).alloc (Nat.le_refl _) (.cells #[.string x1, .string x2, .int .i64 x3, .bool x4] 26))))
  have hc1 : (w.alloc (.cells #[.string x1, .string x2, .int .i64 x3, .bool x4] 26)).heap[w.heap.size]? = some (.cells #[.string x1, .string x2, .int .i64 x3, .bool x4] 26 (0, 0)) := heap_alloc_new _ _
  have hS := h.own hA1 (by simp) (by simp)
  have hml := h.lt.2
  replace hc1 := Lib.hid hc1
  replace hn := Lib.hid hn
  replace hT := Lib.hid hT
  replace hS := Lib.hid hS
  replace hA1 := Lib.hid hA1
  have LK := fun W (hW : Store W b m l) => hW.look x1
  clear h
  rw [rGet_is] at hr ⊢
  generalize rGet l x1 = g at LK hr ⊢
  obtain ⟨⟨y1, y2, y3, y4⟩, is⟩ := g
  simp only at hr
  replace LK := Lib.hid LK
  unfold Ms.val
  go_enter Tryd.func9, Tryd.ntmps9
  go_wp2_with (go_at_call 20; refine (none_no _ _ _ hm2).mono ?_; rintro e w' ⟨rfl, rfl⟩)
  go_wp2_with fail
  refine cN.out.mono ?_
  rintro e w2 ⟨rfl, hO⟩
  have hc2 := hO.heap hc1.out (by simp)
  have hcs : w.heap.size < w2.heap.size := lt_of_heap hc2
  have k0 : w2.cell? ⟨w.heap.size, 0, none⟩ = some (.string x1) := cell_of_row w2 _ 0 _ _ _ hc2
  have k1 : w2.cell? ⟨w.heap.size, 1, none⟩ = some (.string x2) := cell_of_row w2 _ 1 _ _ _ hc2
  have k2 : w2.cell? ⟨w.heap.size, 2, none⟩ = some (.int .i64 x3) := cell_of_row w2 _ 2 _ _ _ hc2
  have k3 : w2.cell? ⟨w.heap.size, 3, none⟩ = some (.bool x4) := cell_of_row w2 _ 3 _ _ _ hc2
  have hS2 := hS.out.own hO (by simp) (by simp)
  have kb : w2.cell? ⟨b, 0, none⟩ = some (.map (some m)) := cell_of_row w2 b 0 _ _ _ hS2.row
  have hbl2 := hS2.lt.1
  have hml2 := hS2.lt.2
  have hD : Own [] w2 w2.drew := (Own.refl _ _).drew
  have hDA : Own [] w2 (w2.alloc zeroMsg).drew := ((Own.refl _ _).alloc _).drew
  have hSD := hS2.own hD (by simp) (by simp)
  have hSA := hS2.own hDA (by simp) (by simp)
  have lk1 := LK.out _ hSD
  have lk2 := LK.out _ hSA
  have hsw : Own [] w w2 := hA1.out.trans hO
  replace hc2 := Lib.hid hc2
  replace hS2 := Lib.hid hS2
  replace hsw := Lib.hid hsw
  clear hSD hSA hD hDA hO
  simp only [zeroMsg, Ms.val] at lk1 lk2
  have hD3 : Own [] w2 (w2.alloc (.cells #[.string y1, .string y2, .int .i64 y3, .bool y4] 26)).drew := ((Own.refl _ _).alloc _).drew
  have hf3 : ((w2.alloc (.cells #[.string y1, .string y2, .int .i64 y3, .bool y4] 26)).drew).frozen? ⟨w.heap.size, 3, none⟩ = false := frozen_of_row _ _ 3 _ _ (hD3.heap hc2.out (by simp))
  have hlen := (hS2.out.own hD3 (by simp) (by simp)).map.len_run rMapT
  have hD4 : Own [w.heap.size] w2 ((w2.setCell ⟨w.heap.size, 3, none⟩ (.bool true)).alloc (.cells #[.string y1, .string y2, .int .i64 y3, .bool y4] 26)).drew.drew := ((((Own.refl _ _).setCell (by simp) _).alloc _).drew).drew
  have hbw : b ≠ w.heap.size := by omega
  have hmw : m ≠ w.heap.size := by omega
  have hS4 := hS2.out.own hD4 (by simpa using hbw) (by simpa using hmw)
  obtain ⟨w4, hup, hM4, hO4, _⟩ := hS4.map.update rKind rMapT x1 (⟨x1, x2, x3, true⟩ : Ms)
  have F : Aside (Store w4 b m (aPut l x1 ⟨x1, x2, x3, true⟩) ∧ Own [m] w w4) := ⟨⟨hS2.out.ne, hO4.heap hS4.row (by simpa using hS2.out.ne), hM4⟩, (hsw.out.nil.trans' hD4 (fun z hz => by simp at hz; omega)).trans hO4⟩
  simp only [Ms.val] at hup
  clear hD3 hM4 hO4 hD4 hS4
  cases is
  · have hr2 : ¬ (32 : Int) ≤ (l.length : Int) := by simp at hr; omega
    clear hr
    go_wp2_with fail
    go_region
    all_goals
      go_wp2_with fail
      go_region
      all_goals
        go_wp2_with fail
        go_ret2
        exact ⟨rfl, F.out⟩
  · clear hr
    go_wp2_with fail
    go_region
    all_goals
      go_wp2_with fail
      go_region
      all_goals
        go_wp2_with fail
        go_ret2
        exact ⟨rfl, F.out⟩

set_option maxRecDepth 100000 in
set_option maxHeartbeats 4000000 in
theorem keep_full (b m : Nat) (l : Msgs) (x : Ms) (w : World) (h : Store w b m l) (hT : Tabs w) (hn : lvName x.top = true) (ht : x.text.toList.isEmpty = false) (hr : (aGet l x.top).isSome = false ∧ 32 ≤ l.length) :
    Calls Tryd.prog 9 #[.pointer (some ⟨b, 0, none⟩), x.val] w fun e w' => e = .returned (.tuple #[.bool false, .int .i64 6]) ∧ Own [] w w' := by
  obtain ⟨x1, x2, x3, x4⟩ := x
  simp only at hn ht hr ⊢
  have hm : w.cell? ⟨b, 0, none⟩ = some (.map (some m)) := cell_of_row w b 0 _ _ _ h.row
  have hbl := lt_of_heap h.row
  have hA1 := (Own.refl [] w).alloc (.cells #[.string x1, .string x2, .int .i64 x3, .bool x4] 26)
  have hm2 : (w.alloc (.cells #[.string x1, .string x2, .int .i64 x3, .bool x4] 26)).cell? ⟨b, 0, none⟩ = some (.map (some m)) := (hA1.cell hbl (by simp)).trans hm
  have cN := fun w hT => name_any x1 w hT
  rw [hn] at cN
  replace cN := Lib.hid (cN _ (hT.below ((Below.refl _ w).alloc (Nat.le_refl _) (.cells #[.string x1, .string x2, .int .i64 x3, .bool x4] 26))))
  have hc1 : (w.alloc (.cells #[.string x1, .string x2, .int .i64 x3, .bool x4] 26)).heap[w.heap.size]? = some (.cells #[.string x1, .string x2, .int .i64 x3, .bool x4] 26 (0, 0)) := heap_alloc_new _ _
  have hS := h.own hA1 (by simp) (by simp)
  have hml := h.lt.2
  replace hc1 := Lib.hid hc1
  replace hn := Lib.hid hn
  replace hT := Lib.hid hT
  replace hS := Lib.hid hS
  replace hA1 := Lib.hid hA1
  have LK := fun W (hW : Store W b m l) => hW.look x1
  clear h
  rw [rGet_is] at hr
  generalize rGet l x1 = g at LK hr
  obtain ⟨⟨y1, y2, y3, y4⟩, is⟩ := g
  simp only at hr
  replace LK := Lib.hid LK
  unfold Ms.val
  go_enter Tryd.func9, Tryd.ntmps9
  go_wp2_with (go_at_call 20; refine (none_no _ _ _ hm2).mono ?_; rintro e w' ⟨rfl, rfl⟩)
  go_wp2_with fail
  refine cN.out.mono ?_
  rintro e w2 ⟨rfl, hO⟩
  have hc2 := hO.heap hc1.out (by simp)
  have hcs : w.heap.size < w2.heap.size := lt_of_heap hc2
  have k0 : w2.cell? ⟨w.heap.size, 0, none⟩ = some (.string x1) := cell_of_row w2 _ 0 _ _ _ hc2
  have k1 : w2.cell? ⟨w.heap.size, 1, none⟩ = some (.string x2) := cell_of_row w2 _ 1 _ _ _ hc2
  have k2 : w2.cell? ⟨w.heap.size, 2, none⟩ = some (.int .i64 x3) := cell_of_row w2 _ 2 _ _ _ hc2
  have k3 : w2.cell? ⟨w.heap.size, 3, none⟩ = some (.bool x4) := cell_of_row w2 _ 3 _ _ _ hc2
  have hS2 := hS.out.own hO (by simp) (by simp)
  have kb : w2.cell? ⟨b, 0, none⟩ = some (.map (some m)) := cell_of_row w2 b 0 _ _ _ hS2.row
  have hbl2 := hS2.lt.1
  have hml2 := hS2.lt.2
  have hD : Own [] w2 w2.drew := (Own.refl _ _).drew
  have hDA : Own [] w2 (w2.alloc zeroMsg).drew := ((Own.refl _ _).alloc _).drew
  have hSD := hS2.own hD (by simp) (by simp)
  have hSA := hS2.own hDA (by simp) (by simp)
  have lk1 := LK.out _ hSD
  have lk2 := LK.out _ hSA
  have hsw : Own [] w w2 := hA1.out.trans hO
  replace hc2 := Lib.hid hc2
  replace hS2 := Lib.hid hS2
  replace hsw := Lib.hid hsw
  clear hSD hSA hD hDA hO
  simp only [zeroMsg, Ms.val] at lk1 lk2
  obtain ⟨rfl, hr2⟩ := hr
  have hr3 : (32 : Int) ≤ (l.length : Int) := by omega
  clear hr2
  have hD3 : Own [] w2 (w2.alloc (.cells #[.string y1, .string y2, .int .i64 y3, .bool y4] 26)).drew := ((Own.refl _ _).alloc _).drew
  have hlen := (hS2.out.own hD3 (by simp) (by simp)).map.len_run rMapT
  have F := Lib.hid (hsw.out.trans hD3)
  clear hD3
  go_wp2_with fail
  go_region
  all_goals
    go_wp2_with fail
    go_ret2
    exact ⟨rfl, F.out⟩

def KeepPost (b m : Nat) (l : Msgs) (x : Ms) (w : World) (e : Ending) (w' : World) : Prop :=
  e = .returned (.tuple #[.bool (rKeep l x).1.1, .int .i64 (rKeep l x).1.2]) ∧ Store w' b m (rKeep l x).2 ∧ Own [m] w w'
theorem keep_any (b m : Nat) (l : Msgs) (x : Ms) (w : World) (h : Store w b m l) (hT : Tabs w) :
    Calls Tryd.prog 9 #[.pointer (some ⟨b, 0, none⟩), x.val] w (KeepPost b m l x w) := by
  unfold KeepPost rKeep
  by_cases hn : lvName x.top = false
  · rw [if_pos hn]
    exact (keep_bad b m l x w h hT hn).mono fun e w' ⟨h1, h2⟩ => ⟨h1, h.own h2 (by simp) (by simp), h2.nil⟩
  · rw [if_neg hn]
    have hn' : lvName x.top = true := by simpa using hn
    by_cases ht : x.text.toList.isEmpty = true
    · rw [if_pos ht]
      exact keep_del b m l x w h hT hn' ht
    · rw [if_neg ht]
      have ht' : x.text.toList.isEmpty = false := by simpa using ht
      by_cases hr : (aGet l x.top).isSome = false ∧ 32 ≤ l.length
      · rw [if_pos hr]
        exact (keep_full b m l x w h hT hn' ht' hr).mono fun e w' ⟨h1, h2⟩ => ⟨h1, h.own h2 (by simp) (by simp), h2.nil⟩
      · rw [if_neg hr]
        exact keep_put b m l x w h hT hn' ht' hr
end Go.Proofs.YthepdibnnnednaaDoor
