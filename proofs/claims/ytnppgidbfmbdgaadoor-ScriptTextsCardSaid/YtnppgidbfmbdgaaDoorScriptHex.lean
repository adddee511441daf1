/- Scripts (chapter 40): bytes as a word: the document's. -/
import Derived.Test.YtnppgidbfmbdgaaDoorScriptDig
import Derived.Test.YtnppgidbfmbdgaaDoorSteps
import Derived.Deep.LoopGhost
import Derived.Deep.RegionLaw
set_option linter.unusedSimpArgs false
set_option linter.unusedVariables false
namespace Go.Proofs.YtnppgidbfmbdgaaDoor
open Go.RowKit

def bEnc (x : UInt8) : List Value := [.int .u8 x.toNat]
theorem bInfo : (Tryd.prog.info? 5).map (fun i => (i.zero, i.size, i.bytes)) = some (some (.int .u8 0), 1, 1) := by kernel_rfl
theorem bElem : Elem Tryd.prog 57 5 bEnc 1 1 where
  ut := Tryd.underlying57
  info := by obtain ⟨i, h1, h2, h3, h4⟩ := info_parts bInfo; exact ⟨i, _, h1, h2, h3, h4, rfl⟩
  pos := by omega
  len := fun _ => rfl
  one x u hu := by simp [bEnc] at hu; subst hu; rfl
/-- The sign of a number below 16. -/
def hexD (n : Nat) : UInt8 := hexW.get! n
def hexL (l : List UInt8) : List UInt8 := l.flatMap fun b => [hexD (b.toNat / 16), hexD (b.toNat % 16)]
theorem hex_at (n : Nat) (h : n < (⟨#[48, 49, 50, 51, 52, 53, 54, 55, 56, 57, 97, 98, 99, 100, 101, 102]⟩ : ByteArray).size) : ((⟨#[48, 49, 50, 51, 52, 53, 54, 55, 56, 57, 97, 98, 99, 100, 101, 102]⟩ : ByteArray)[n]'h).toNat = (hexD n).toNat := by
  have := get_at (⟨#[48, 49, 50, 51, 52, 53, 54, 55, 56, 57, 97, 98, 99, 100, 101, 102]⟩ : ByteArray) n h
  rw [← this]; rfl
theorem hexL_snoc (s : ByteArray) (i : Nat) (h : i < s.size) : hexL (s.data.toList.take (i + 1)) = hexL (s.data.toList.take i) ++ [hexD ((s[i]'h).toNat / 16), hexD ((s[i]'h).toNat % 16)] := by
  have h2 : i < s.data.toList.length := by rw [← Lib.size_eq]; exact h
  rw [List.take_succ_eq_append_getElem h2]
  unfold hexL
  rw [List.flatMap_append]
  simp only [List.flatMap_cons, List.flatMap_nil, List.append_nil]
  rfl
theorem hexL_len (l : List UInt8) : (hexL l).length = 2 * l.length := by
  induction l with
  | nil => rfl
  | cons x l ih => unfold hexL at *; simp only [List.flatMap_cons, List.length_append, List.length_cons, List.length_nil]; omega
/-- 'string(b)' of bytes of the call's own. -/
theorem conv_sl {src dst : TypeId} (hs : Tryd.prog.underlying src = some (.slice 5)) (hd : Tryd.prog.underlying dst = some .string) {B : Nat} {w : World} {a : Option Addr} {n c : Nat} {l : List UInt8} (h : Sl 5 bEnc 1 B w (.slice a n c) l) (hl : l ≠ []) :
    (convert src dst (.slice a n c)).run Tryd.prog w = .ok (.string ⟨l.toArray⟩) w := by
  rcases h.form with ⟨_, h2⟩ | ⟨g, cap, h1, _, hR⟩
  · exact absurd h2 hl
  · cases h1
    have e : strOfNums (l.map fun b => (b.toNat : Int)) = ⟨l.toArray⟩ := by
      apply ByteArray.ext
      apply Array.ext'
      rw [strOfNums_data, List.map_map]
      exact (List.map_congr_left (fun b _ => by simp)).trans (List.map_id l)
    rw [← e]
    refine run_convert_bytes_arg w src 5 hs Tryd.underlying5 g 0 l.length c (l.map fun b => (b.toNat : Int)) (by simp) (fun i hi => ?_) dst hd
    have := hR.cell (fun _ => rfl) (List.getElem?_eq_getElem hi) (show (bEnc l[i])[0]? = some (.int .u8 (l[i]).toNat) from rfl)
    simp only [Nat.mul_one, Nat.add_zero] at this
    rw [Nat.zero_add, this]
    simp [List.getD, hi]
/-- Bytes as a word. -/
def scBytes (s : ByteArray) : ByteArray := if s.size = 0 then ⟨#[45]⟩ else ⟨(hexL s.data.toList).toArray⟩
set_option maxRecDepth 100000 in
set_option maxHeartbeats 4000000 in
theorem rbytes_any (s : ByteArray) (hs : s.size ≤ 35184372088832) (w : World) : Calls Tryd.prog 11 #[.string s] w fun e w' => e = .returned (.string (scBytes s)) ∧ Own [] w w' := by
  go_enter Tryd.func11, Tryd.ntmps11
  go_wp2_with fail
  go_loopg [4, 5] s.size (fun g s4 s5 wr => ∃ (i : Nat) (v : Value), s4 = v ∧ s5 = .int .i64 i ∧ i + g = s.size ∧ Aside (Sl 5 bEnc 1 w.heap.size wr v (hexL (s.data.toList.take i)) ∧ Own [] w wr))
  case atStart => exact ⟨0, _, rfl, rfl, by simp, Sl.nil _ _ _, Own.refl _ _⟩
  case round =>
    obtain ⟨i, v, rfl, rfl, hi, hS, hO⟩ := hrel
    obtain ⟨a1, c1, rfl⟩ := hS.sl
    by_cases hlt : i < s.size
    · have h1 : (i : Int) < s.size := by omega
      have h0 : (0 : Int) ≤ i := by omega
      have hb : (s[i]'hlt).toNat < 256 := (s[i]'hlt).toNat_lt
      have hsn := hexL_snoc s i hlt
      have hln : (hexL (s.data.toList.take i)).length = 2 * i := by
        rw [hexL_len, List.length_take, ← Lib.size_eq]; omega
      generalize hc : (s[i]'hlt).toNat = c at *
      obtain ⟨q, hq⟩ : ∃ q, c / 16 = q := ⟨_, rfl⟩
      obtain ⟨r, hr⟩ : ∃ r, c % 16 = r := ⟨_, rfl⟩
      rw [hq, hr] at hsn
      have w1 : IntKind.i64.wrap (c : Int) = c := IntWalk.i64_in _ (by omega)
      have w2 : (c : Int).tdiv 16 = (q : Int) := by rw [Int.tdiv_eq_ediv_of_nonneg (by omega)]; omega
      have w3 : (c : Int).tmod 16 = (r : Int) := by rw [Int.tmod_eq_emod_of_nonneg (by omega)]; omega
      have w4 : IntKind.i64.wrap (q : Int) = q := IntWalk.i64_in _ (by omega)
      have w5 : IntKind.i64.wrap (r : Int) = r := IntWalk.i64_in _ (by omega)
      have q1 : (0 : Int) ≤ q := by omega
      have q2 : (q : Int) < 16 := by omega
      have r1 : (0 : Int) ≤ r := by omega
      have r2 : (r : Int) < 16 := by omega
      have x1 := hex_at q
      have x2 := hex_at r
      have hOb : Own [] w ((wr.alloc (.cells #[.int .u8 (hexD q).toNat, .int .u8 (hexD r).toNat] 5)).drew) := (hO.alloc _).drew
      have hSb : Sl 5 bEnc 1 w.heap.size ((wr.alloc (.cells #[.int .u8 (hexD q).toNat, .int .u8 (hexD r).toNat] 5)).drew) (.slice a1 (hexL (s.data.toList.take i)).length c1) (hexL (s.data.toList.take i)) := hS.nil' (((Own.refl [] wr).alloc _).drew)
      have hRb : Reads bEnc ((wr.alloc (.cells #[.int .u8 (hexD q).toNat, .int .u8 (hexD r).toNat] 5)).drew) (.slice (some ⟨wr.heap.size, 0, none⟩) 2 2) [hexD q, hexD r] := by
        refine .inr ⟨wr.heap.size, 0, 2, rfl, fun j u hu => ?_⟩
        show (wr.alloc _).cell? _ = _
        rw [cell_of_row _ _ _ _ _ _ (heap_alloc_new wr (.cells #[.int .u8 (hexD q).toNat, .int .u8 (hexD r).toNat] 5))]
        simpa [rowOf, bEnc] using hu
      have hl1 := Lib.hid (show ((hexL (s.data.toList.take i)).length + [hexD q, hexD r].length) * 1 ≤ 140737488355328 by rw [hln]; simp; omega)
      have hl2 := Lib.hid (show (hexL (s.data.toList.take i)).length + [hexD q, hexD r].length ≤ maxLen by rw [hln]; unfold maxLen; simp; omega)
      replace hOb := Lib.hid hOb
      replace hSb := Lib.hid hSb
      replace hRb := Lib.hid hRb
      replace hsn := Lib.hid hsn
      clear hS hO hq hr hln hb
      go_wp2_with fail
      go_region_law (((refine stepAppend rfl (.tmp 12) (.tmp 27) (by rfl) bElem hOb.out (by rfl) hSb.out (by rfl) hRb.out hl1.out hl2.out ?_); intro va w5 hS5 hO5 hg5 hX5; rw [← hsn.out] at hS5; replace hS5 := Lib.hid hS5; replace hO5 := Lib.hid hO5; clear hg5 hX5))
      all_goals
        go_wp2_with fail
        go_roundg (s.size - (i + 1))
        case rel => exact ⟨i + 1, va, rfl, by go_num, by omega, hS5.out, hO5.out⟩
        case measure => omega
    · obtain rfl : i = s.size := by omega
      have hl : (hexL (s.data.toList.take s.size)).length = 2 * s.size := by rw [hexL_len, List.length_take, ← Lib.size_eq]; omega
      have ht : s.data.toList.take s.size = s.data.toList := List.take_of_length_le (by rw [← Lib.size_eq]; omega)
      have eS : scBytes s = if s.size = 0 then ⟨#[45]⟩ else ⟨(hexL (s.data.toList.take s.size)).toArray⟩ := by rw [ht]; rfl
      generalize s.data.toList.take s.size = L at *
      by_cases hz : s.size = 0
      · rw [if_pos hz] at eS
        have q1 : (((hexL L).length : Int) == 0) = true := by rw [hl, hz]; rfl
        replace hO := Lib.hid hO
        replace eS := Lib.hid eS
        clear hS hl hi ht
        go_wp2_with fail
        go_ret
        exact ⟨by rw [eS.out]; rfl, hO.out⟩
      · rw [if_neg hz] at eS
        have q1 : (((hexL L).length : Int) == 0) = false := by rw [hl]; exact beq_eq_false_iff_ne.2 (by omega)
        have hne : hexL L ≠ [] := by
          intro h
          rw [h] at hl
          have h3 : 0 = 2 * s.size := hl
          omega
        have hc := conv_sl Tryd.underlying57 Tryd.underlying9 hS hne
        replace hO := Lib.hid hO
        replace eS := Lib.hid eS
        clear hS hl hi ht hne
        go_wp2_with fail
        go_ret
        exact ⟨by rw [eS.out]; rfl, hO.out⟩
end Go.Proofs.YtnppgidbfmbdgaaDoor
