/- The namespace (chapter 20): parts of a topic. -/
import Derived.Test.YtecociaolohfmaaGreatDoorSpWords
import Derived.Test.YtecociaolohfmaaGreatDoorTrieJoin
import Derived.Test.YtecociaolohfmaaGreatDoorSplit
import Derived.Test.YtecociaolohfmaaGreatDoorUtf
import Derived.Shelf.Strings.Search3
import Derived.Deep.RegionHeld3
set_option linter.unusedSimpArgs false
set_option linter.unusedVariables false
namespace Go.Proofs.YtecociaolohfmaaGreatDoor
open Go.RowKit

/-- The library's variable that strings.Contains reads: some int. -/
def MaxC (w : World) : Prop := ∃ m, w.cell? ⟨Tryz.laysContains_ren.g 1, 0, none⟩ = some (.int .i64 m)
theorem MaxC.own {w w' : World} (h : MaxC w) (ho : Own [] w w') : MaxC w' :=
  let ⟨m, hm⟩ := h; ⟨m, (ho.cell (block_lt_of_cell hm) (by simp)).trans hm⟩
def spPart (s : ByteArray) : Bool := lvName s && !(Lib.contains s.data.toList [47])
set_option maxRecDepth 100000 in
set_option maxHeartbeats 2000000 in
theorem part_any (s : ByteArray) (w : World) (hT : Tabs w) (hM : MaxC w) : Calls Tryz.prog 56 #[.string s] w fun e w' => e = .returned (.bool (spPart s)) ∧ Own [] w w' := by
  have cN := Lib.hid (name_any s w hT)
  by_cases hn : lvName s = true
  · have hs : s.size ≤ 96 := by
      unfold lvName lvSized at hn
      simp at hn
      omega
    have cC := Lib.hid (fun W (hM : MaxC W) => (Any.strings_Contains Tryz.laysContains s ⟨#[47]⟩ hM.choose W (by omega) hM.choose_spec))
    have e1 : spPart s = !(Lib.contains s.data.toList [47]) := by unfold spPart; rw [hn]; rfl
    rw [e1]
    rw [hn] at cN
    clear e1 hn hs
    go_enter Tryz.func56, Tryz.ntmps56
    go_wp2_with fail
    with_reducible refine cN.out.mono ?_
    rintro e w2 ⟨rfl, hO⟩
    replace hO := Lib.hid hO
    go_wp2_with fail
    refine (cC.out _ (by exact hM.own hO.out)).mono ?_
    rintro e w3 ⟨rfl, rfl⟩
    go_wp2_with fail
    go_ret
    exact ⟨rfl, hO.out⟩
  · have hn2 : lvName s = false := by simpa using hn
    have e1 : spPart s = false := by unfold spPart; rw [hn2]; rfl
    rw [e1]
    rw [hn2] at cN
    clear e1 hn hn2
    go_enter Tryz.func56, Tryz.ntmps56
    go_wp2_with fail
    with_reducible refine cN.out.mono ?_
    rintro e w2 ⟨rfl, hO⟩
    replace hO := Lib.hid hO
    go_wp2_with fail
    go_ret
    exact ⟨rfl, hO.out⟩
/-- A spot. -/
structure Spot where
  k : Int
  g : ByteArray
  n : ByteArray
  d : ByteArray
def rootB : ByteArray := ⟨#[115, 112, 66, 118, 49, 46, 48]⟩
def stateB : ByteArray := ⟨#[83, 84, 65, 84, 69]⟩
def spAll (s : Spot) : List ByteArray := if s.k = 9 then [rootB, stateB, s.n] else if 5 ≤ s.k then [rootB, s.g, spWord s.k, s.n, s.d] else [rootB, s.g, spWord s.k, s.n]
def spFree (s : Spot) : List ByteArray := if s.k = 9 then [s.n] else if 5 ≤ s.k then [s.g, s.n, s.d] else [s.g, s.n]
def PartsP (w : World) (A F : List ByteArray) (e : Ending) (w' : World) : Prop := ∃ a b : Nat, e = .returned (.tuple #[.slice (some ⟨a, 0, none⟩) A.length A.length, .slice (some ⟨b, 0, none⟩) F.length F.length]) ∧ Reads lEnc w' (.slice (some ⟨a, 0, none⟩) A.length A.length) A ∧ Reads lEnc w' (.slice (some ⟨b, 0, none⟩) F.length F.length) F ∧ Own [] w w'
theorem rowOf_l (l : List ByteArray) : rowOf lEnc l = l.map Value.string := by
  induction l with
  | nil => rfl
  | cons x r ih => unfold rowOf at *; rw [List.flatMap_cons, ih]; rfl
theorem reads_row {W : World} {b : Nat} {A : List ByteArray} {T : TypeId} (h : W.heap[b]? = some (.cells (A.map Value.string).toArray T (0, 0))) : Reads lEnc W (.slice (some ⟨b, 0, none⟩) A.length A.length) A := by
  refine .inr ⟨b, 0, A.length, rfl, fun j u hu => ?_⟩
  rw [rowOf_l] at hu
  rw [cell_of_row _ _ _ _ _ _ h, Nat.zero_add]
  simpa using hu
theorem partsP_AF {w W : World} (hO : Own [] w W) (A F : List ByteArray) (T : TypeId) {a b : Nat} (ha : a = W.heap.size) (hb : b = W.heap.size + 1) :
    PartsP w A F (.returned (.tuple #[.slice (some ⟨a, 0, none⟩) A.length A.length, .slice (some ⟨b, 0, none⟩) F.length F.length])) ((W.alloc (.cells (A.map Value.string).toArray T)).alloc (.cells (F.map Value.string).toArray T)).drew := by
  subst ha hb
  refine ⟨_, _, rfl, reads_row (T := T) ?_, reads_row (T := T) (heap_alloc2_new _ _ _), ((hO.alloc _).alloc _).drew⟩
  exact ((Own.refl [] (W.alloc (.cells (A.map Value.string).toArray T))).alloc (.cells (F.map Value.string).toArray T)).heap (heap_alloc_new W _) (by simp)
theorem partsP_FA {w W : World} (hO : Own [] w W) (A F : List ByteArray) (T : TypeId) {a b : Nat} (hb : b = W.heap.size) (ha : a = W.heap.size + 1) :
    PartsP w A F (.returned (.tuple #[.slice (some ⟨a, 0, none⟩) A.length A.length, .slice (some ⟨b, 0, none⟩) F.length F.length])) ((W.alloc (.cells (F.map Value.string).toArray T)).alloc (.cells (A.map Value.string).toArray T)).drew := by
  subst ha hb
  refine ⟨_, _, rfl, reads_row (T := T) (heap_alloc2_new _ _ _), reads_row (T := T) ?_, ((hO.alloc _).alloc _).drew⟩
  exact ((Own.refl [] (W.alloc (.cells (F.map Value.string).toArray T))).alloc (.cells (A.map Value.string).toArray T)).heap (heap_alloc_new W _) (by simp)
theorem blkS {w : World} {b : Nat} {x0 x1 x2 x3 : Value} {T : TypeId} (h : w.heap[b]? = some (.cells #[x0, x1, x2, x3] T (0, 0))) :
    w.cell? ⟨b, 0, none⟩ = some x0 ∧ w.cell? ⟨b, 1, none⟩ = some x1 ∧ w.cell? ⟨b, 2, none⟩ = some x2 ∧ w.cell? ⟨b, 3, none⟩ = some x3 :=
  ⟨by rw [cell_of_row _ _ _ _ _ _ h]; rfl, by rw [cell_of_row _ _ _ _ _ _ h]; rfl, by rw [cell_of_row _ _ _ _ _ _ h]; rfl, by rw [cell_of_row _ _ _ _ _ _ h]; rfl⟩
set_option maxRecDepth 100000 in
set_option maxHeartbeats 4000000 in
theorem parts_any (s : Spot) (w : World) (hW : WordsAt w) : Calls Tryz.prog 55 #[.agg #[.int .i64 s.k, .string s.g, .string s.n, .string s.d]] w (PartsP w (spAll s) (spFree s)) := by
  obtain ⟨k, g, n, d⟩ := s
  have hO1 : Own [] w (w.alloc (.cells #[.int .i64 k, .string g, .string n, .string d] 49)) := (Own.refl _ _).alloc _
  have hb := heap_alloc_new w (.cells #[.int .i64 k, .string g, .string n, .string d] 49)
  have cW := Lib.hid (fun W => width_any k W)
  have cX := Lib.hid (fun W (h : WordsAt W) => spword_any k W h)
  by_cases h9 : k = 9
  · have e1 : spAll ⟨k, g, n, d⟩ = [rootB, stateB, n] := by unfold spAll; rw [if_pos h9]
    have e2 : spFree ⟨k, g, n, d⟩ = [n] := by unfold spFree; rw [if_pos h9]
    have e3 : spWidth k = 3 := by unfold spWidth; rw [if_pos h9]
    rw [e1, e2]
    rw [e3] at cW
    obtain ⟨f0, f1, f2, f3⟩ := blkS hb
    replace hb := Lib.hid hb
    clear h9 e1 e2 e3
    go_enter Tryz.func55, Tryz.ntmps55
    go_wp2_with fail
    with_reducible refine (cW.out _).mono ?_
    rintro e w2 ⟨rfl, rfl⟩
    go_wp2_with fail
    go_region_held3 (fun W' => W'.cell? ⟨w.heap.size, 2, none⟩ = some (.string n)) (go_keep) (fail)
    all_goals
      go_wp2_with fail
      go_ret2
      first
        | exact partsP_AF hO1 [rootB, stateB, n] [n] 9 (by simp) (by simp)
        | exact partsP_FA hO1 [rootB, stateB, n] [n] 9 (by simp) (by simp)
  · have cY := Lib.hid (hW.own hO1)
    have q9 : (k == 9) = false := by simpa using h9
    by_cases h5 : 5 ≤ k
    · have e1 : spAll ⟨k, g, n, d⟩ = [rootB, g, spWord k, n, d] := by unfold spAll; rw [if_neg h9, if_pos h5]
      have e2 : spFree ⟨k, g, n, d⟩ = [g, n, d] := by unfold spFree; rw [if_neg h9, if_pos h5]
      have e3 : spWidth k = 5 := by unfold spWidth; rw [if_neg h9, if_pos h5]
      rw [e1, e2]
      rw [e3] at cW
      obtain ⟨f0, f1, f2, f3⟩ := blkS hb
      replace hb := Lib.hid hb
      have cZ := Lib.hid (fun W (h : Own [] (w.alloc (.cells #[.int .i64 k, .string g, .string n, .string d] 49)) W) => cX.out W (cY.out.own h))
      clear h9 e1 e2 e3 h5 q9
      go_enter Tryz.func55, Tryz.ntmps55
      go_wp2_with fail
      with_reducible refine (cW.out _).mono ?_
      rintro e w2 ⟨rfl, rfl⟩
      go_wp2_with fail
      go_region_held3 (fun W' => W'.cell? ⟨w.heap.size, 0, none⟩ = some (.int .i64 k) ∧ W'.cell? ⟨w.heap.size, 1, none⟩ = some (.string g) ∧ W'.cell? ⟨w.heap.size, 2, none⟩ = some (.string n) ∧ W'.cell? ⟨w.heap.size, 3, none⟩ = some (.string d)) (go_keep) ((go_at_call 93; ((with_reducible refine (cX.out _ (by first | exact cY.out.own ((Own.refl [] _).drew) | exact cY.out.own (((Own.refl [] _).alloc _).drew))).mono ?_); rintro e w2 ⟨rfl, rfl⟩)))
      all_goals
        go_wp2_with fail
        go_ret2
        first
          | exact partsP_AF hO1 [rootB, g, spWord k, n, d] [g, n, d] 9 (by simp) (by simp)
          | exact partsP_FA hO1 [rootB, g, spWord k, n, d] [g, n, d] 9 (by simp) (by simp)
    · have e1 : spAll ⟨k, g, n, d⟩ = [rootB, g, spWord k, n] := by unfold spAll; rw [if_neg h9, if_neg h5]
      have e2 : spFree ⟨k, g, n, d⟩ = [g, n] := by unfold spFree; rw [if_neg h9, if_neg h5]
      have e3 : spWidth k = 4 := by unfold spWidth; rw [if_neg h9, if_neg h5]
      rw [e1, e2]
      rw [e3] at cW
      obtain ⟨f0, f1, f2, f3⟩ := blkS hb
      replace hb := Lib.hid hb
      have cZ := Lib.hid (fun W (h : Own [] (w.alloc (.cells #[.int .i64 k, .string g, .string n, .string d] 49)) W) => cX.out W (cY.out.own h))
      clear h9 e1 e2 e3 h5 q9
      go_enter Tryz.func55, Tryz.ntmps55
      go_wp2_with fail
      with_reducible refine (cW.out _).mono ?_
      rintro e w2 ⟨rfl, rfl⟩
      go_wp2_with fail
      go_region_held3 (fun W' => W'.cell? ⟨w.heap.size, 0, none⟩ = some (.int .i64 k) ∧ W'.cell? ⟨w.heap.size, 1, none⟩ = some (.string g) ∧ W'.cell? ⟨w.heap.size, 2, none⟩ = some (.string n)) (go_keep) ((go_at_call 93; ((with_reducible refine (cX.out _ (by first | exact cY.out.own ((Own.refl [] _).drew) | exact cY.out.own (((Own.refl [] _).alloc _).drew))).mono ?_); rintro e w2 ⟨rfl, rfl⟩)))
      all_goals
        go_wp2_with fail
        go_ret2
        first
          | exact partsP_AF hO1 [rootB, g, spWord k, n] [g, n] 9 (by simp) (by simp)
          | exact partsP_FA hO1 [rootB, g, spWord k, n] [g, n] 9 (by simp) (by simp)
end Go.Proofs.YtecociaolohfmaaGreatDoor
