/- The document's trie (crierref19) in memory: Drop. The document's trie (crierref19) in memory: Clear. -/
import Derived.Test.YtldagaliddgdjaaGreatDoorTrieDoc
namespace Go.Proofs.YtldagaliddgdjaaGreatDoor
open Go.RowKit Go.Lib Go.Shelf Go.Sort

def WEnd (w : World) (xb : Nat) (v : Value) (r' : Ws) (w' : World) : Prop := ∃ v', WS w' xb v' r' ∧ Own (xb :: v.ownBlock.toList) w w' ∧ (∀ g, v'.ownBlock = some g → v.ownBlock = some g ∨ w.heap.size ≤ g)
theorem wend_none {xb : Nat} {v : Value} {r : Ws} {w w' : World} (h : WS w xb v r) (ho : Own [] w w') : WEnd w xb v r w' := ⟨v, h.nil' ho, ho.nil, fun _ hg => .inl hg⟩
theorem wend_new {xb : Nat} {w w5 : World} {v v3 : Value} {r : Ws} (h : WS w xb v r) (hO : Own [] w w5) {r' : Ws} (hS : Sl 69 wEnc 3 w.heap.size w5 v3 r') : WEnd w xb v r' (w5.setCell ⟨xb, 0, none⟩ v3) := by
  have hxl := lt_of_heap h.row
  have hO2 : Own [xb] w5 (w5.setCell ⟨xb, 0, none⟩ v3) := (Own.refl _ _).setCell (by simp) _
  have hne : ∀ g, v3.ownBlock = some g → g ≠ xb := fun g hg => by have := (hS.block hg).1; omega
  exact ⟨v3, ⟨heap_setCell_same _ _ _ _ _ _ (hO.heap h.row (by simp)), (hS.own hO2 (fun g hg => by simpa using hne g hg)).mono (Nat.zero_le _), fun hx => hne xb hx rfl⟩, (hO.nil.trans hO2).mono (by simp), fun g hg => .inr (hS.block hg).1⟩

set_option maxRecDepth 100000 in
set_option maxHeartbeats 4000000 in
theorem wdrop_any (xb : Nat) (v : Value) (r : Ws) (k : Int) (s : ByteArray) (w : World) (h : WS w xb v r) (hl : r.length ≤ 1000) :
    Calls Tryz.prog 19 #[.pointer (some ⟨xb, 0, none⟩), .int .i64 k, .string s] w fun e w' => e = .returned (.bool (dDrop r k s).1) ∧ WEnd w xb v (dDrop r k s).2 w' := by
  have F := wfind_any xb v r k s w h hl
  unfold dDrop
  have hle := wPos_le r k s
  by_cases hs : wPos r k s < r.length
  · rw [if_pos hs] at F ⊢
    simp only
    have hK1 : ∀ w', Own [] w w' → w'.cell? ⟨xb, 0, none⟩ = some v := fun w' ho => cell_of_row w' xb 0 _ _ _ (h.nil' ho).row
    have hfz : ∀ w2, Own [] w w2 → w2.frozen? ⟨xb, 0, none⟩ = false := fun w2 ho => frozen_of_row w2 xb 0 _ _ (h.nil' ho).row
    have hfin0 := fun w5 v3 (ho : Own [] w w5) (r' : Ws) (hs : Sl 69 wEnc 3 w.heap.size w5 v3 r') => wend_new h ho hs
    generalize wPos r k s = K at *
    obtain ⟨v1, hs1, hr1, hb1⟩ := h.own.take wElem hle
    obtain ⟨v2, hs2, hr2, hb2⟩ := h.own.drop wElem (i := K + 1) (by omega)
    rw [show (((K + 1 : Nat)) : Int) = (K : Int) + 1 by omega] at hs2
    have lt : (r.take K).length ≤ 1000 := by simp; omega
    have ld : (r.drop (K + 1)).length ≤ 1000 := by simp; omega
    generalize hrr : r.take K ++ r.drop (K + 1) = rr
    have hfin := fun w5 v3 ho hs => hfin0 w5 v3 ho rr hs
    have hw1 : IntKind.i64.wrap ((K : Int) + 1) = (K : Int) + 1 := IntWalk.i64_in _ (by omega)
    have hk0 : ¬ ((K : Int) < 0) := by omega
    replace hK1 := Lib.hid hK1
    replace hfz := Lib.hid hfz
    replace hfin := Lib.hid hfin
    replace hrr := Lib.hid hrr
    replace hs1 := Lib.hid hs1
    replace hs2 := Lib.hid hs2
    replace F := Lib.hid F
    obtain ⟨a, cap, rfl⟩ := h.own.sl
    clear hfin0 h hb1 hb2
    go_enter Tryz.func19, Tryz.ntmps19
    go_wp2_with (first
      | (go_at_call 39; (with_reducible refine F.out.mono ?_); rintro e w3 ⟨rfl, hO3⟩; have k2 := hK1.out _ hO3; have hOe := hO3.alloc (.cells #[] 69); have hsl := (Sl.empty (enc := wEnc) (k := 3) 69 w3).mono (base' := w.heap.size) hO3.size; have hr1' := hr1.nil' hOe; have kE := hK1.out _ hOe; replace hOe := Lib.hid hOe; replace hsl := Lib.hid hsl; replace hr1' := Lib.hid hr1'; replace hO3 := Lib.hid hO3)
      | (refine wpList_slice_of (o := ⟨some 21, _, _, _, _, _⟩) rfl _ _ _ _ _ rfl rfl rfl rfl rfl hs1.out ?_)
      | (at_builtin; refine wpList_append_new rfl (.tmp 15) (.tmp 21) rfl wElem hOe.out rfl hsl.out rfl hr1'.out (by simp only [List.length_nil]; omega) (by unfold maxLen; simp only [List.length_nil]; omega) ?_; intro va wa hSa hOa _ _; have ca := hK1.out wa hOa; have hr2' := hr2.nil' hOa; replace hOa := Lib.hid hOa; replace hSa := Lib.hid hSa; replace hr2' := Lib.hid hr2'; clear hr1' hOe)
      | (refine wpList_slice_of (o := ⟨some 30, _, _, _, _, _⟩) rfl _ _ _ _ _ rfl rfl rfl rfl rfl hs2.out ?_)
      | (at_builtin; refine wpList_append_new rfl (.tmp 23) (.tmp 30) rfl wElem hOa.out rfl hSa.out rfl hr2'.out (by simp only [List.length_append, List.length_nil]; omega) (by unfold maxLen; simp only [List.length_append, List.length_nil]; omega) ?_; intro vc wc hSc hOd _ _; rw [List.nil_append, hrr.out] at hSc; obtain ⟨ac, capc, rfl⟩ := hSc.sl; have cc := hK1.out wc hOd; have cf := hfz.out wc hOd; replace hOd := Lib.hid hOd; replace hSc := Lib.hid hSc))
    go_ret
    exact ⟨rfl, hfin.out _ _ hOd.out hSc.out⟩
  · rw [if_neg hs] at F ⊢
    have hend := fun w' (ho : Own [] w w') => wend_none h ho
    replace F := Lib.hid F
    replace hend := Lib.hid hend
    clear h hle hs
    go_enter Tryz.func19, Tryz.ntmps19
    go_wp2_with (go_at_call 39; (with_reducible refine F.out.mono ?_); rintro e w3 ⟨rfl, hO3⟩; replace hO3 := Lib.hid hO3)
    go_ret
    exact ⟨rfl, hend.out _ hO3.out⟩
end Go.Proofs.YtldagaliddgdjaaGreatDoor

namespace Go.Proofs.YtldagaliddgdjaaGreatDoor
open Go.RowKit Go.Lib Go.Shelf Go.Sort

theorem take_filt {α : Type} (q : α → Bool) {A : List α} {i : Nat} {x : α} (h : A[i]? = some x) : (A.take (i + 1)).filter q = (A.take i).filter q ++ if q x then [x] else [] := by
  rw [List.take_add_one, h, List.filter_append]
  simp [List.filter_cons]
set_option maxRecDepth 100000 in
set_option maxHeartbeats 4000000 in
theorem wclear_any (xb : Nat) (v : Value) (r : Ws) (k : Int) (w : World) (h : WS w xb v r) (hl : r.length ≤ 1000) :
    Calls Tryz.prog 21 #[.pointer (some ⟨xb, 0, none⟩), .int .i64 k] w fun e w' => e = .returned (.int .i64 (dClear r k).1) ∧ WEnd w xb v (dClear r k).2 w' := by
  have F := wcount_any xb v r k w h hl
  unfold dClear
  simp only
  have hK1 : ∀ w', Own [] w w' → w'.cell? ⟨xb, 0, none⟩ = some v := fun w' ho => cell_of_row w' xb 0 _ _ _ (h.nil' ho).row
  have hfz : ∀ w2, Own [] w w2 → w2.frozen? ⟨xb, 0, none⟩ = false := fun w2 ho => frozen_of_row w2 xb 0 _ _ (h.nil' ho).row
  have hfin := fun w5 v3 (ho : Own [] w w5) (hs : Sl 69 wEnc 3 w.heap.size w5 v3 (r.filter fun p => !(p.1.1 == k))) => wend_new h ho hs
  have hrd := h.own.reads wEnc_len
  obtain ⟨a, cap, rfl⟩ := h.own.sl
  obtain ⟨N, hN⟩ : ∃ N, r.length = N := ⟨_, rfl⟩
  rw [hN] at hl hrd hK1 hfin ⊢
  generalize wCount r k = cn at F ⊢
  replace hN := Lib.hid hN
  replace hrd := Lib.hid hrd
  replace hK1 := Lib.hid hK1
  replace hfz := Lib.hid hfz
  replace hfin := Lib.hid hfin
  replace F := Lib.hid F
  clear h
  go_enter Tryz.func21, Tryz.ntmps21
  go_wp2_with (go_at_call 40; (with_reducible refine F.out.mono ?_); rintro e w3 ⟨rfl, hO3⟩; replace hO3 := Lib.hid hO3)
  go_loopg [6, 7] N (fun g s6 s7 wr => ∃ (j : Nat) (T : Ws) (a1 : Option Addr) (m c1 : Nat), s7 = .int .i64 j ∧ s6 = .slice a1 m c1 ∧ j ≤ N ∧ g = N - j ∧ Aside (T = (r.take j).filter (fun p => !(p.1.1 == k)) ∧ T.length = m ∧ Sl 69 wEnc 3 w.heap.size wr (.slice a1 m c1) T ∧ Own [] w wr))
  case atStart => exact ⟨0, [], none, 0, 0, rfl, rfl, by omega, rfl, rfl, rfl, Sl.nil _ _ _, hO3.out⟩
  case round =>
    obtain ⟨j, T, a1, m, c1, rfl, rfl, hj, rfl, hT, hTm, hSl, hO⟩ := hrel
    have j0 : (0 : Int) ≤ j := by omega
    have kx := hK1.out wr hO
    by_cases hjN : j < N
    · have j1 : (j : Int) < N := by omega
      have hwj : IntKind.i64.wrap ((j : Int) + 1) = (j : Int) + 1 := IntWalk.i64_in _ (by omega)
      have hRr := hrd.out.nil' hO
      obtain ⟨p, hp⟩ : ∃ p, r[j]? = some p := ⟨_, List.getElem?_eq_getElem (by have := hN.out; omega)⟩
      have hst := take_filt (fun p => !(p.1.1 == k)) hp
      have hTl : T.length ≤ 1000 := by rw [hT]; exact Nat.le_trans (List.length_filter_le ..) (by simp; omega)
      obtain ⟨b, o, rfl, hc⟩ := hRr.at_ wEnc_len (by have := hN.out; omega)
      obtain ⟨⟨p1, p2⟩, p3⟩ := p
      have e0 : wr.cell? ⟨b, o + j * 3, none⟩ = some (.int .i64 p1) := by simpa using hc j _ 0 _ hp rfl
      have e1 : wr.cell? ⟨b, o + j * 3 + 1, none⟩ = some (.string p2) := by rw [Nat.add_assoc]; exact hc j _ 1 _ hp rfl
      have e2 : wr.cell? ⟨b, o + j * 3 + 2, none⟩ = some (.int .i64 p3) := by rw [Nat.add_assoc]; exact hc j _ 2 _ hp rfl
      rw [← hT] at hst
      simp only at hst
      clear hc hRr hp
      by_cases h1 : p1 = k
      · have h1' : (p1 == k) = true := by simpa using h1
        rw [h1'] at hst
        simp only [Bool.not_true, Bool.false_eq_true, if_false, List.append_nil] at hst
        replace hst := Lib.hid hst
        replace hT := Lib.hid hT
        replace hTm := Lib.hid hTm
        replace hSl := Lib.hid hSl
        replace hO := Lib.hid hO
        go_wp2_with fail
        go_roundg (N - (j + 1))
        case measure => omega
        case rel => exact ⟨j + 1, T, a1, m, c1, by simp, rfl, by omega, rfl, hst.out.symm, hTm.out, hSl.out, hO.out⟩
      · have h1' : (p1 == k) = false := by simpa using h1
        rw [h1'] at hst
        simp only [Bool.not_false, if_true] at hst
        have hRb := Reads.new (enc := wEnc) (T := 69) wr ((p1, p2), p3) 1
        have hSb := hSl.nil' ((Own.refl [] wr).alloc (.cells #[.int .i64 p1, .string p2, .int .i64 p3] 69))
        have hOb := hO.alloc (.cells #[.int .i64 p1, .string p2, .int .i64 p3] 69)
        have hl1 := Lib.hid (show (T.length + [((p1, p2), p3)].length) * 32 ≤ 140737488355328 by simp only [List.length_singleton]; omega)
        have hl2 := Lib.hid (show T.length + [((p1, p2), p3)].length ≤ maxLen by unfold maxLen; simp only [List.length_singleton]; omega)
        have hlm2 := Lib.hid (show (T ++ [((p1, p2), p3)]).length = m + 1 by simp [hTm])
        replace hst := Lib.hid hst
        replace hRb := Lib.hid hRb
        replace hSb := Lib.hid hSb
        replace hOb := Lib.hid hOb
        clear hTl hT hTm hSl hO
        go_wp2_with (at_builtin; refine wpList_append_new2 rfl (.tmp 30) (.tmp 38) rfl wElem hOb.out rfl hSb.out rfl hRb.out hl1.out hl2.out ?_; intro v5 w5 hS5 hO5 _ _ _; obtain ⟨a5, c5, rfl⟩ := hS5.sl; rw [hlm2.out] at hS5 ⊢; replace hS5 := Lib.hid hS5; replace hO5 := Lib.hid hO5)
        go_roundg (N - (j + 1))
        case measure => omega
        case rel => exact ⟨j + 1, _, a5, m + 1, c5, by simp, rfl, by omega, rfl, hst.out.symm, hlm2.out, hS5.out, hO5.out⟩
    · have j1 : ¬ (j : Int) < N := by omega
      have hfull : r.take j = r := List.take_of_length_le (by have := hN.out; omega)
      rw [hfull] at hT
      have hend := hfin.out wr (.slice a1 m c1) hO (by rw [← hT]; exact hSl)
      have cf := hfz.out wr hO
      replace hend := Lib.hid hend
      clear hT hTm hSl hO hfull
      go_wp2_with fail
      go_ret
      exact ⟨rfl, hend.out⟩
end Go.Proofs.YtldagaliddgdjaaGreatDoor
