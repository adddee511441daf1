/- RetainLast: of a topic the last message stays. -/
import Derived.Test.YthepdibnnnednaaDoorRetainAwake
import Derived.Deep.LoopGhost
namespace Go.Proofs.YthepdibnnnednaaDoor
open Go.RowKit

theorem open_msgs2 {H : Type} {enc : TypeId × Value → H} {w : World} {fuel : Nat} {a0 : Option Addr} {len0 cap0 : Nat} {x : DataW H × List MemPlace} (h : DataW.trod enc Tryd.prog w 0 (fun _ => true) true fuel 22 (Value.cells (.slice a0 len0 cap0)).toList = some x)
    {ts : List TypeId} {ds : List (DataW H)} (_hsz : (DataW.weightsEach Tryd.prog ts ds).all (· ≤ reachBytes) = true) {j : Nat} (_ht : ts[j]? = some 22) (_hd : ds[j]? = some x.1) : ∃ ms, MsgRow w a0 len0 ms := open_msgs h
/-- What a topic has, by the last message that was taken of it. -/
def lastOf (x : Ms) : Option Ms := if x.text.toList.isEmpty then none else some x.stays
theorem lastOf_zero : lastOf Ms.zero = none := by kernel_rfl
theorem keep_other (l : Msgs) (x : Ms) (t : ByteArray) (last : Ms) (h : aGet l t = lastOf last) : aGet (rKeep l x).2 t = lastOf (if x.top = t ∧ (rKeep l x).1.2 = 0 then x else last) := by
  unfold rKeep
  cases hn : lvName x.top
  · simp [h]
  · simp only [Bool.true_eq_false, if_false]
    by_cases ht : x.text.toList.isEmpty = true
    · rw [if_pos ht]
      by_cases hx : x.top = t
      · rw [if_pos ⟨hx, rfl⟩]
        simp only [hx]
        rw [aGet_del_same]
        simp [lastOf, ht]
      · rw [if_neg (fun hc => hx hc.1)]
        simp only
        rw [aGet_del_other _ hx, h]
    · rw [if_neg ht]
      by_cases hr : (aGet l x.top).isSome = false ∧ 32 ≤ l.length
      · rw [if_pos hr]
        simp [h]
      · rw [if_neg hr]
        by_cases hx : x.top = t
        · rw [if_pos ⟨hx, rfl⟩]
          simp only [hx]
          rw [aGet_put_same]
          simp [lastOf, ht]
        · rw [if_neg (fun hc => hx hc.1)]
          simp only
          rw [aGet_put_other _ hx, h]
theorem rGet_last {l : Msgs} {t : ByteArray} {last : Ms} (h : aGet l t = lastOf last) : rGet l t = if last.text.toList.isEmpty then (Ms.zero, false) else (last.stays, true) := by
  unfold rGet
  rw [h]
  unfold lastOf
  split <;> simp_all

set_option maxRecDepth 100000 in
set_option maxHeartbeats 4000000 in
theorem last_walk (a0 : Option Addr) (n0 c0 : Nat) (ms : Nat → Ms) (t : ByteArray) (w : World) (h0 : MsgRow w a0 n0 ms) (_z : t.size ≤ 140737488351232) (hT : Tabs w) :
    Calls Tryd.prog 3 #[.slice a0 n0 c0, .string t] w fun e w' => e = .returned (.bool true) ∧ Below w.heap.size w w' := by
  have hl0 : n0 ≤ 9223372036854775807 := by have := h0.1; simp only [maxLen] at this; omega
  replace h0 := Lib.hid h0
  replace hT := Lib.hid hT
  go_enter Tryd.func3, Tryd.ntmps3
  go_wp2_with fail
  refine (new_any _).mono ?_
  rintro e w1 ⟨b, m, rfl, hS, hb, hm, hO⟩
  have hsz1 := hO.size
  have hB1 : Below w.heap.size w (w1.alloc (.cells Ms.zero.cells.toArray 26)) := (hO.alloc _).below (Nat.le_refl _) (by simp)
  have hS1 := hS.own ((Own.refl [] w1).alloc (.cells Ms.zero.cells.toArray 26)) (by simp) (by simp)
  have hP1 : (w1.alloc (.cells Ms.zero.cells.toArray 26)).heap[w1.heap.size]? = some (.cells Ms.zero.cells.toArray 26 (0, 0)) := heap_alloc_new _ _
  have hbl := hS.lt
  have hpb : b ≠ w1.heap.size := by omega
  have hpm : m ≠ w1.heap.size := by omega
  replace hB1 := Lib.hid hB1
  replace hS1 := Lib.hid hS1
  replace hP1 := Lib.hid hP1
  clear hS hO
  go_wp2_with fail
  go_loopg [7, 8, 9] n0 (fun g i was e wr => ∃ (k : Nat) (l : Msgs) (last : Ms), k ≤ n0 ∧ g = n0 - k ∧ i = .int .i64 k ∧ k ≤ 60 ∧
    Aside (Store wr b m l ∧ Below w.heap.size w wr ∧ wr.heap[w1.heap.size]? = some (.cells last.cells.toArray 26 (0, 0)) ∧ aGet l t = lastOf last))
  case atStart => exact ⟨0, [], Ms.zero, by omega, by omega, rfl, by omega, hS1.out, hB1.out, hP1.out, lastOf_zero.symm⟩
  case round =>
    obtain ⟨k, l, last, hk, rfl, rfl, hk6, hA⟩ := hrel
    obtain ⟨hS, hB, hP, hg⟩ := hA
    by_cases hlt : k < n0 ∧ k < 60
    · obtain ⟨b1, o1, rfl, hb1, hx⟩ := (h0.out.below hB).2 (by omega)
      have hb1w : b1 < w.heap.size := by
        obtain ⟨b2, o2, he, hb2, _⟩ := h0.out.2 (by omega)
        cases he; exact hb2
      have hxk := hx k hlt.1
      have hTr := hT.out.below hB
      have hK := keep_any b m l (ms k) wr hS hTr
      have hko := keep_other l (ms k) t last hg
      unfold KeepPost at hK
      generalize rKeep l (ms k) = r at hK hko
      generalize ms k = x at hxk hK hko
      obtain ⟨x1, x2, x3, x4⟩ := x
      obtain ⟨⟨was, code⟩, l'⟩ := r
      simp only at hK hko
      have d0 : wr.cell? ⟨b1, o1 + k * 4, none⟩ = some (.string x1) := hxk 0 _ rfl
      have d1 : wr.cell? ⟨b1, o1 + k * 4 + 1, none⟩ = some (.string x2) := hxk 1 _ rfl
      have d2 : wr.cell? ⟨b1, o1 + k * 4 + 2, none⟩ = some (.int .i64 x3) := hxk 2 _ rfl
      have d3 : wr.cell? ⟨b1, o1 + k * 4 + 3, none⟩ = some (.bool x4) := hxk 3 _ rfl
      have hbm : b1 ≠ m := by omega
      have k1 := hlt.1
      have k2 : (k : Int) < 60 := by omega
      have hpl := lt_of_heap hP
      simp only [Ms.val] at hK
      replace hK := Lib.hid hK
      replace hko := Lib.hid hko
      replace hS := Lib.hid hS
      replace hP := Lib.hid hP
      replace hB := Lib.hid hB
      replace hg := Lib.hid hg
      clear hx hxk hTr
      go_wp2_with fail
      refine hK.out.mono ?_
      rintro e w2 ⟨rfl, hS2, hO2⟩
      have e0 : w2.cell? ⟨b1, o1 + k * 4, none⟩ = some (.string x1) := (hO2.cell hb1 (by simpa using hbm)).trans d0
      have e1 : w2.cell? ⟨b1, o1 + k * 4 + 1, none⟩ = some (.string x2) := (hO2.cell hb1 (by simpa using hbm)).trans d1
      have e2 : w2.cell? ⟨b1, o1 + k * 4 + 2, none⟩ = some (.int .i64 x3) := (hO2.cell hb1 (by simpa using hbm)).trans d2
      have e3 : w2.cell? ⟨b1, o1 + k * 4 + 3, none⟩ = some (.bool x4) := (hO2.cell hb1 (by simpa using hbm)).trans d3
      have hP2 := hO2.heap hP.out (by simpa using hpm.symm)
      have hB2 : Below w.heap.size w w2 := hB.out.trans (hO2.below hB.out.size (by simp; omega))
      have f0 : w2.frozen? ⟨w1.heap.size, 0, none⟩ = false := frozen_of_row _ _ _ _ _ hP2
      have f1 : w2.frozen? ⟨w1.heap.size, 1, none⟩ = false := frozen_of_row _ _ _ _ _ hP2
      have f2 : w2.frozen? ⟨w1.heap.size, 2, none⟩ = false := frozen_of_row _ _ _ _ _ hP2
      have f3 : w2.frozen? ⟨w1.heap.size, 3, none⟩ = false := frozen_of_row _ _ _ _ _ hP2
      have g0 : w2.cell? ⟨w1.heap.size, 0, none⟩ = some (.string last.top) := cell_of_row _ _ 0 _ _ _ hP2
      have g1 : w2.cell? ⟨w1.heap.size, 1, none⟩ = some (.string last.text) := cell_of_row _ _ 1 _ _ _ hP2
      have g2 : w2.cell? ⟨w1.heap.size, 2, none⟩ = some (.int .i64 last.qos) := cell_of_row _ _ 2 _ _ _ hP2
      have g3 : w2.cell? ⟨w1.heap.size, 3, none⟩ = some (.bool last.ret) := cell_of_row _ _ 3 _ _ _ hP2
      clear d0 d1 d2 d3 hO2 hK
      replace hP2 := Lib.hid hP2
      replace hB2 := Lib.hid hB2
      replace hS2 := Lib.hid hS2
      by_cases hy : x1 = t ∧ code = 0
      · obtain ⟨rfl, rfl⟩ := hy
        have hko2 := hko.out
        rw [if_pos ⟨rfl, rfl⟩] at hko2
        have F : Aside (Store ((((w2.setCell ⟨w1.heap.size, 0, none⟩ (.string x1)).setCell ⟨w1.heap.size, 1, none⟩ (.string x2)).setCell ⟨w1.heap.size, 2, none⟩ (.int .i64 x3)).setCell ⟨w1.heap.size, 3, none⟩ (.bool x4)) b m l' ∧
            Below w.heap.size w ((((w2.setCell ⟨w1.heap.size, 0, none⟩ (.string x1)).setCell ⟨w1.heap.size, 1, none⟩ (.string x2)).setCell ⟨w1.heap.size, 2, none⟩ (.int .i64 x3)).setCell ⟨w1.heap.size, 3, none⟩ (.bool x4)) ∧
            ((((w2.setCell ⟨w1.heap.size, 0, none⟩ (.string x1)).setCell ⟨w1.heap.size, 1, none⟩ (.string x2)).setCell ⟨w1.heap.size, 2, none⟩ (.int .i64 x3)).setCell ⟨w1.heap.size, 3, none⟩ (.bool x4)).heap[w1.heap.size]? = some (.cells (Ms.cells ⟨x1, x2, x3, x4⟩).toArray 26 (0, 0)) ∧ aGet l' x1 = lastOf ⟨x1, x2, x3, x4⟩) := by
          have hO5 : Own [w1.heap.size] w2 ((((w2.setCell ⟨w1.heap.size, 0, none⟩ (.string x1)).setCell ⟨w1.heap.size, 1, none⟩ (.string x2)).setCell ⟨w1.heap.size, 2, none⟩ (.int .i64 x3)).setCell ⟨w1.heap.size, 3, none⟩ (.bool x4)) :=
            ((((Own.refl _ _).setCell (by simp) _).setCell (by simp) _).setCell (by simp) _).setCell (by simp) _
          refine ⟨hS2.out.own hO5 (by simpa using hpb) (by simpa using hpm), hB2.out.trans (hO5.below hB2.out.size (by simp; omega)), ?_, hko2⟩
          refine (heap_setCell_same _ _ _ _ _ _ (heap_setCell_same _ _ _ _ _ _ (heap_setCell_same _ _ _ _ _ _ (heap_setCell_same _ _ _ _ _ _ hP2.out)))).trans ?_
          simp [Ms.cells, Array.setIfInBounds]
        clear hko2
        go_wp2_with fail
        go_roundg (n0 - (k + 1))
        case measure => omega
        case rel => exact ⟨k + 1, l', _, by omega, by omega, by go_num, by omega, F⟩
      · have hko2 := hko.out
        rw [if_neg hy] at hko2
        have F : Aside (Store w2 b m l' ∧ Below w.heap.size w w2 ∧ w2.heap[w1.heap.size]? = some (.cells last.cells.toArray 26 (0, 0)) ∧ aGet l' t = lastOf last) := ⟨hS2.out, hB2.out, hP2.out, hko2⟩
        clear hko2
        by_cases hxt : x1 = t
        · have hc : ¬ code = 0 := fun hc => hy ⟨hxt, hc⟩
          have hcb : (code == 0) = false := by simpa using hc
          have hxb : (x1.toList == t.toList) = true := by simp [hxt]
          clear hy hc hxt
          go_wp2_with fail
          go_roundg (n0 - (k + 1))
          case measure => omega
          case rel => exact ⟨k + 1, l', last, by omega, by omega, by go_num, by omega, F⟩
        · have hxb : (x1.toList == t.toList) = false := by rw [← beq_toListBytes]; simpa using hxt
          clear hy hxt
          go_wp2_with fail
          go_roundg (n0 - (k + 1))
          case measure => omega
          case rel => exact ⟨k + 1, l', last, by omega, by omega, by go_num, by omega, F⟩
    · have hG := get_any b m l t wr hS
      have hgl := rGet_last hg
      obtain ⟨l1, l2, l3, l4⟩ := last
      have hpl := lt_of_heap hP
      replace hP := Lib.hid hP
      replace hB := Lib.hid hB
      replace hS := Lib.hid hS
      clear hg
      have hex : (¬ k < n0) ∨ (k < n0 ∧ ¬ ((k : Int) < 60)) := by
        by_cases h1 : k < n0
        · exact .inr ⟨h1, fun h2 => hlt ⟨h1, by omega⟩⟩
        · exact .inl h1
      clear hlt
      by_cases ht : l2.toList.isEmpty = true
      · have hgz : rGet l t = (Ms.zero, false) := by rw [hgl]; exact if_pos ht
        rw [hgz] at hG
        simp only [Ms.val, Ms.zero] at hG
        replace hG := Lib.hid hG
        clear hgl hgz
        rcases hex with h1 | ⟨h1, h2⟩
        all_goals
          go_wp2_with fail
          refine hG.out.mono ?_
          rintro e w2 ⟨rfl, hO2⟩
          have hP2 := hO2.heap hP.out (by simp)
          have hB2 : Below w.heap.size w w2 := hB.out.trans (hO2.below hB.out.size (by simp))
          have g1 : w2.cell? ⟨w1.heap.size, 1, none⟩ = some (.string l2) := cell_of_row _ _ 1 _ _ _ hP2
          have hpl2 := lt_of_heap hP2
          have hBf : Below w.heap.size w (w2.alloc (.cells #[.string ByteArray.empty, .string ByteArray.empty, .int .i64 0, .bool false] 26)) := hB2.alloc hB2.size _
          have hTf := Lib.hid (hT.out.below hBf)
          replace hBf := Lib.hid hBf
          clear hO2 hP2 hB2
          go_wp2_with fail
          refine (awake_any _ hTf.out).mono ?_
          rintro e w3 ⟨rfl, hO3⟩
          go_wp2_with fail
          go_ret
          exact ⟨rfl, hBf.out.trans (hO3.below hBf.out.size (by simp))⟩
      · have ht' : l2.toList.isEmpty = false := by simpa using ht
        have hgz : rGet l t = (⟨l1, l2, l3, true⟩, true) := by rw [hgl]; exact if_neg ht
        rw [hgz] at hG
        simp only [Ms.val] at hG
        replace hG := Lib.hid hG
        clear hgl hgz ht
        rcases hex with h1 | ⟨h1, h2⟩
        all_goals
          go_wp2_with fail
          refine hG.out.mono ?_
          rintro e w2 ⟨rfl, hO2⟩
          have hP2 := hO2.heap hP.out (by simp)
          have hB2 : Below w.heap.size w w2 := hB.out.trans (hO2.below hB.out.size (by simp))
          have g0 : w2.cell? ⟨w1.heap.size, 0, none⟩ = some (.string l1) := cell_of_row _ _ 0 _ _ _ hP2
          have g1 : w2.cell? ⟨w1.heap.size, 1, none⟩ = some (.string l2) := cell_of_row _ _ 1 _ _ _ hP2
          have g2 : w2.cell? ⟨w1.heap.size, 2, none⟩ = some (.int .i64 l3) := cell_of_row _ _ 2 _ _ _ hP2
          have g3 : w2.cell? ⟨w1.heap.size, 3, none⟩ = some (.bool l4) := cell_of_row _ _ 3 _ _ _ hP2
          have f3 : w2.frozen? ⟨w1.heap.size, 3, none⟩ = false := frozen_of_row _ _ _ _ _ hP2
          have hpl2 := lt_of_heap hP2
          have hBf : Below w.heap.size w ((w2.setCell ⟨w1.heap.size, 3, none⟩ (.bool true)).alloc (.cells #[.string l1, .string l2, .int .i64 l3, .bool true] 26)) :=
            ((hB2.setCell (show w.heap.size ≤ w1.heap.size by omega) _)).alloc (by have := hB2.size; simp; omega) _
          have hTf := Lib.hid (hT.out.below hBf)
          replace hBf := Lib.hid hBf
          clear hO2 hP2 hB2
          go_wp2_with fail
          refine (awake_any _ hTf.out).mono ?_
          rintro e w3 ⟨rfl, hO3⟩
          go_wp2_with fail
          go_ret
          exact ⟨rfl, hBf.out.trans (hO3.below hBf.out.size (by simp))⟩
end Go.Proofs.YthepdibnnnednaaDoor
