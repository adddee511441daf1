/- Scripts (chapter 40): bytes as a word: the program's. -/
import Derived.Test.YtnppgidbfmbdgaaDoorScriptSb
set_option linter.unusedSimpArgs false
set_option linter.unusedVariables false
namespace Go.Proofs.YtnppgidbfmbdgaaDoor
open Go.RowKit

theorem byteCells_add (l : List UInt8) (x : UInt8) : Lib.byteCells l ++ [.int .u8 x.toNat] = Lib.byteCells (l ++ [x]) := by simp [Lib.byteCells]
set_option maxRecDepth 100000 in
set_option maxHeartbeats 4000000 in
theorem bytes_any (s : ByteArray) (hs : s.size ≤ 35184372088832) (w : World) : Calls Tryd.prog 10 #[.string s] w fun e w' => e = .returned (.string (scBytes s)) ∧ Own [] w w' := by
  by_cases hz : s.size = 0
  · have k3 : s.toList = [] := List.eq_nil_of_length_eq_zero (by rw [size_toList]; exact hz)
    have k2 : s.toList.isEmpty = true := by rw [k3]; rfl
    have e1 : scBytes s = ⟨#[45]⟩ := by unfold scBytes; rw [if_pos hz]
    rw [e1]
    clear e1 hz
    go_enter Tryd.func10, Tryd.ntmps10
    go_wp2_with fail
    go_ret
    exact ⟨rfl, Own.refl _ _⟩
  · have k2 : s.toList.isEmpty = false := by rw [List.isEmpty_eq_false_iff]; intro h; apply hz; rw [← size_toList, h]; rfl
    have hB0 := sb_new (w := w)
    have hb0 : Below w.heap.size w (w.alloc (.cells #[.pointer none, .slice none 0 0] 59)) := (Below.refl _ _).alloc (Nat.le_refl _) _
    replace hB0 := Lib.hid hB0
    replace hb0 := Lib.hid hb0
    have hpos : 0 < s.size := by omega
    clear hz
    go_enter Tryd.func10, Tryd.ntmps10
    go_wp2_with fail
    go_loopg [4, 9] s.size (fun g _ s9 wr => ∃ (i : Nat), s9 = .int .i64 i ∧ i + g = s.size ∧ Aside (Lib.IsBuilder 59 5 w.heap.size w.heap.size (Lib.byteCells (hexL (s.data.toList.take i))) wr ∧ Below w.heap.size w wr))
    case atStart => exact ⟨0, rfl, by simp, hB0.out, hb0.out⟩
    case round =>
      obtain ⟨i, rfl, hi, hB, hb⟩ := hrel
      clear hB0 hb0 k2
      by_cases hlt : i < s.size
      · have h1 : (i : Int) < s.size := by omega
        have h0 : (0 : Int) ≤ i := by omega
        have hbd : (s[i]'hlt).toNat < 256 := (s[i]'hlt).toNat_lt
        have hsn := hexL_snoc s i hlt
        have hln : (hexL (s.data.toList.take i)).length = 2 * i := by
          rw [hexL_len, List.length_take, ← Lib.size_eq]; omega
        generalize hc : (s[i]'hlt).toNat = c at *
        obtain ⟨q, hq⟩ : ∃ q, c / 16 = q := ⟨_, rfl⟩
        obtain ⟨r, hr⟩ : ∃ r, c % 16 = r := ⟨_, rfl⟩
        rw [hq, hr] at hsn
        have q0 : (c : Int) / 16 = (q : Int) := by omega
        have r0 : (c : Int) % 16 = (r : Int) := by omega
        have q1 : (0 : Int) ≤ q := by omega
        have q2 : (q : Int) < 16 := by omega
        have r1 : (0 : Int) ≤ r := by omega
        have r2 : (r : Int) < 16 := by omega
        have x1 := hex_at q
        have x2 := hex_at r
        have hsz := hb.size
        have cA := Lib.hid (wbyte_any w.heap.size w.heap.size _ ((hexD q).toNat : Int) wr hB (by rw [Lib.byteCells_length, hln]; omega) hsz)
        have cB := Lib.hid (fun W (h : Lib.BuilderAt 59 5 w.heap.size w.heap.size (.pointer (some ⟨w.heap.size, 0, none⟩)) (Lib.byteCells (hexL (s.data.toList.take i)) ++ [.int .u8 ((hexD q).toNat : Int)]) W) (hz : w.heap.size ≤ W.heap.size) =>
          wbyte_any w.heap.size w.heap.size _ ((hexD r).toNat : Int) W (.inr h) (by rw [List.length_append, Lib.byteCells_length, hln]; simp; omega) hz)
        have hsn2 : Lib.byteCells (hexL (s.data.toList.take (i + 1))) = Lib.byteCells (hexL (s.data.toList.take i)) ++ [.int .u8 ((hexD q).toNat : Int)] ++ [.int .u8 ((hexD r).toNat : Int)] := by
          rw [hsn, byteCells_add, byteCells_add, List.append_assoc]; rfl
        replace hsn2 := Lib.hid hsn2
        replace hb := Lib.hid hb
        replace hi := Lib.hid hi
        clear hB hsn hln hq hr hbd
        go_wp2_with (first
          | (go_at_call 27; ((with_reducible refine cA.out.mono ?_); rintro e w2 ⟨rfl, hB2, hb2⟩; have cC := Lib.hid (cB.out w2 hB2 (Nat.le_trans hsz hb2.size)); replace hb2 := Lib.hid (hb.out.trans hb2); clear cA cB hB2))
          | (go_at_call 27; ((with_reducible refine cC.out.mono ?_); rintro e w3 ⟨rfl, hB3, hb3⟩; replace hB3 := Lib.hid hB3; replace hb3 := Lib.hid (hb2.out.trans hb3); clear cC hb2)))
        go_roundg (s.size - (i + 1))
        case rel => exact ⟨i + 1, by go_num, by omega, .inr (by rw [hsn2.out]; exact hB3.out), hb3.out⟩
        case measure => have := hi.out; omega
      · have hii : i = s.size := by have := hi; omega
        subst hii
        have ht : s.data.toList.take s.size = s.data.toList := List.take_of_length_le (by rw [← Lib.size_eq]; omega)
        rw [ht] at hB
        have hne : hexL s.data.toList ≠ [] := by
          intro h
          have := hexL_len s.data.toList
          rw [h, ← Lib.size_eq] at this
          have h3 : 0 = 2 * s.size := this
          omega
        have e1 : scBytes s = ⟨(hexL s.data.toList).toArray⟩ := by unfold scBytes; rw [if_neg (by omega)]
        have cS := Lib.hid (sbString_any w.heap.size w.heap.size _ wr hB hne)
        replace hb := Lib.hid hb
        replace e1 := Lib.hid e1
        clear hB hne ht
        go_wp2_with (go_at_call 28; ((with_reducible refine cS.out.mono ?_); rintro e w2 ⟨rfl, hb2⟩))
        go_ret
        exact ⟨by rw [e1.out]; rfl, Own.of_below (hb.out.trans hb2) (Nat.le_refl _)⟩
end Go.Proofs.YtnppgidbfmbdgaaDoor
