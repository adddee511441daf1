/- The document's trie (crierref19) in memory: Of. -/
import Derived.Test.YtldagaliddgdjaaGreatDoorTrieDocAdd
import Derived.Test.YtldagaliddgdjaaGreatDoorTrieGather
import Derived.Test.YtldagaliddgdjaaGreatDoorRise
namespace Go.Proofs.YtldagaliddgdjaaGreatDoor
open Go.RowKit Go.Lib Go.Shelf Go.Sort

def oStep (k : Int) (out : List (ByteArray × Int)) (p : (Int × ByteArray) × Int) : List (ByteArray × Int) := if p.1.1 = k then rIns (fun q : ByteArray × Int => q.1) out (p.1.2, p.2) else out
def dOf (r : Ws) (k : Int) : List (ByteArray × Int) := r.foldl (oStep k) []
theorem dOf_step {r : Ws} {k : Int} {j : Nat} {x : (Int × ByteArray) × Int} (h : r[j]? = some x) : dOf (r.take (j + 1)) k = oStep k (dOf (r.take j) k) x := by
  unfold dOf
  rw [List.take_add_one, h]
  simp
theorem dOf_len (r : Ws) (k : Int) : ∀ j, (dOf (r.take j) k).length ≤ j
  | 0 => by simp [dOf]
  | j + 1 => by
    have ih := dOf_len r k j
    cases hx : r[j]? with
    | none =>
      have : r.length ≤ j := List.getElem?_eq_none_iff.1 hx
      rw [List.take_of_length_le (by omega)]
      rw [List.take_of_length_le (by omega)] at ih
      omega
    | some x =>
      rw [dOf_step hx]
      unfold oStep
      split
      · rw [rIns_len]; omega
      · omega
set_option maxRecDepth 100000 in
set_option maxHeartbeats 4000000 in
theorem wof_any (xb : Nat) (v : Value) (r : Ws) (k : Int) (w : World) (h : WS w xb v r) (hl : r.length ≤ 1000) :
    Calls Tryz.prog 13 #[.pointer (some ⟨xb, 0, none⟩), .int .i64 k] w fun e w' => ∃ v', e = .returned v' ∧ Sl 32 fEnc 2 w.heap.size w' v' (dOf r k) ∧ Own [] w w' := by
  have hK1 : ∀ w', Own [] w w' → w'.cell? ⟨xb, 0, none⟩ = some v := fun w' ho => cell_of_row w' xb 0 _ _ _ (h.nil' ho).row
  have hrd := h.own.reads wEnc_len
  obtain ⟨a, cap, rfl⟩ := h.own.sl
  obtain ⟨N, hN⟩ : ∃ N, r.length = N := ⟨_, rfl⟩
  rw [hN] at hl hrd hK1
  replace hN := Lib.hid hN
  replace hrd := Lib.hid hrd
  replace hK1 := Lib.hid hK1
  clear h
  go_enter Tryz.func13, Tryz.ntmps13
  go_wp2_with fail
  go_loopg [5, 6, 7, 8] N (fun g s5 s6 s7 s8 wr => ∃ (j : Nat) (T : List (ByteArray × Int)) (a1 : Option Addr) (m c1 : Nat), s6 = .int .i64 j ∧ s5 = .slice a1 m c1 ∧ j ≤ N ∧ g = N - j ∧ Aside (T = dOf (r.take j) k ∧ T.length = m ∧ Sl 32 fEnc 2 w.heap.size wr (.slice a1 m c1) T ∧ Own [] w wr))
  case atStart => exact ⟨0, [], none, 0, 0, rfl, rfl, by omega, rfl, rfl, rfl, Sl.nil _ _ _, Own.refl _ _⟩
  case round =>
    obtain ⟨j, T, a1, m, c1, rfl, rfl, hj, rfl, hT, hTm, hSl, hO⟩ := hrel
    have j0 : (0 : Int) ≤ j := by omega
    have kx := hK1.out wr hO
    by_cases hjN : j < N
    · have j1 : (j : Int) < N := by omega
      have hwj : IntKind.i64.wrap ((j : Int) + 1) = (j : Int) + 1 := IntWalk.i64_in _ (by omega)
      have hRr := hrd.out.nil' hO
      obtain ⟨p, hp⟩ : ∃ p, r[j]? = some p := ⟨_, List.getElem?_eq_getElem (by have := hN.out; omega)⟩
      have hst := dOf_step (k := k) hp
      have hTl : T.length ≤ 1000 := by rw [hT]; exact Nat.le_trans (dOf_len r k j) (by omega)
      obtain ⟨b, o, rfl, hc⟩ := hRr.at_ wEnc_len (by have := hN.out; omega)
      obtain ⟨⟨p1, p2⟩, p3⟩ := p
      have e0 : wr.cell? ⟨b, o + j * 3, none⟩ = some (.int .i64 p1) := by simpa using hc j _ 0 _ hp rfl
      have e1 : wr.cell? ⟨b, o + j * 3 + 1, none⟩ = some (.string p2) := by rw [Nat.add_assoc]; exact hc j _ 1 _ hp rfl
      have e2 : wr.cell? ⟨b, o + j * 3 + 2, none⟩ = some (.int .i64 p3) := by rw [Nat.add_assoc]; exact hc j _ 2 _ hp rfl
      rw [← hT] at hst
      unfold oStep at hst
      simp only at hst
      clear hc hRr hp
      by_cases h1 : p1 = k
      · have h1' : (p1 == k) = true := by simpa using h1
        have h1n : (p1 != k) = false := by simpa using h1
        rw [if_pos h1] at hst
        have hcell : ∀ W, Own [] wr W → W.cell? ⟨b, o + j * 3 + 1, none⟩ = some (.string p2) ∧ W.cell? ⟨b, o + j * 3 + 2, none⟩ = some (.int .i64 p3) ∧ W.cell? ⟨xb, 0, none⟩ = some (.slice (some ⟨b, o, none⟩) N cap) := fun W ho =>
          ⟨(ho.cell (block_lt_of_cell e1) (by simp)).trans e1, (ho.cell (block_lt_of_cell e2) (by simp)).trans e2, hK1.out W (hO.trans ho)⟩
        obtain ⟨w5, h5⟩ : ∃ W : World, W = wr := ⟨_, rfl⟩
        subst h5
        have hRT := hSl.reads fEnc_len
        have hle := rPos_le (key := fun q : ByteArray × Int => q.1) T p2
        have hlb := fun i (h : i < rPos (fun q : ByteArray × Int => q.1) T p2) => rPos_lt h
        have hat := fun q (h : T[rPos (fun q : ByteArray × Int => q.1) T p2]? = some q) => rPos_at h
        obtain ⟨v1, hs1, hr1, hb1⟩ := hSl.take fElem hle
        obtain ⟨v2, hs2, hr2, hb2⟩ := hSl.drop fElem hle
        unfold rIns at hst
        simp only at hst
        generalize rPos (fun q : ByteArray × Int => q.1) T p2 = K at *
        have lt : (T.take K).length ≤ 1000 := by simp; omega
        have ld : (T.drop K).length ≤ 1000 := by simp; omega
        have hK0 : (0 : Int) ≤ K := by omega
        rw [hTm] at hle
        have hml : m ≤ 1000 := by omega
        replace hlb := Lib.hid hlb
        replace hat := Lib.hid hat
        replace hRT := Lib.hid hRT
        replace hs1 := Lib.hid hs1
        replace hs2 := Lib.hid hs2
        replace hr1 := Lib.hid hr1
        replace hr2 := Lib.hid hr2
        replace hcell := Lib.hid hcell
        have hlen3 := Lib.hid (show (T.take K ++ [(p2, p3)] ++ T.drop K).length = m + 1 by simp; omega)
        replace hst := Lib.hid hst
        replace hT := Lib.hid hT
        replace hTm := Lib.hid hTm
        replace hO := Lib.hid hO
        clear hSl hb1 hb2 h1
        go_wp2_with fail
        go_loopg [7] (K + 1) (fun gk s7 wr => ∃ i : Nat, i ≤ K ∧ gk = K + 1 - i ∧ s7 = .int .i64 i ∧ Own [] w5 wr)
        case atStart => exact ⟨0, by omega, rfl, rfl, Own.refl _ _⟩
        case round =>
          obtain ⟨i, hi, rfl, rfl, hO2⟩ := hrel
          have i0 : (0 : Int) ≤ i := by omega
          have hwi : IntKind.i64.wrap ((i : Int) + 1) = (i : Int) + 1 := IntWalk.i64_in _ (by omega)
          obtain ⟨f1, f2, f0⟩ := hcell.out wr hO2
          by_cases hiK : i < K
          · obtain ⟨q, hq, hs⟩ := hlb.out i hiK
            have hRw := hRT.out.nil' hO2
            obtain ⟨b2, o2, rfl, hc⟩ := hRw.at_ fEnc_len (by have := hTm.out; omega)
            have g0 : wr.cell? ⟨b2, o2 + i * 2, none⟩ = some (.string q.1) := by simpa using hc i q 0 _ hq rfl
            have hs' : Op.bytesLess q.1.toList p2.toList = true := hs
            have i1 : (i : Int) < m := by omega
            have i2 : decide ((i : Int) < m) = true := by simp; omega
            replace hO2 := Lib.hid hO2
            clear hc hRw hq hs
            go_wp2_with fail
            go_quiet (fail)
            go_wp2_with fail
            go_roundg (K + 1 - (i + 1))
            case measure => omega
            case rel => exact ⟨i + 1, by omega, rfl, by simp, hO2.out.drewN _⟩
          · obtain rfl : i = K := by omega
            have hOe := fun n => ((Own.refl [] wr).drewN n).alloc (.cells #[] 32)
            have hsl := fun n => (Sl.empty (enc := fEnc) (k := 2) 32 (wr.drewN n))
            have hr1' := fun n => (hr1.out.nil' hO2).nil' (hOe n)
            have hr2w := hr2.out.nil' hO2
            have hcellw := fun W (ho : Own [] wr W) => hcell.out W (hO2.trans ho)
            have hex : (∃ (b2 o2 : Nat) (q : ByteArray), a1 = some ⟨b2, o2, none⟩ ∧ wr.cell? ⟨b2, o2 + i * 2, none⟩ = some (.string q) ∧ Op.bytesLess q.toList p2.toList = false ∧ (i : Int) < m ∧ decide ((i : Int) < m) = true) ∨ ((¬ (i : Int) < m) ∧ decide ((i : Int) < m) = false ∧ decide (i < m) = false) := by
              by_cases him : i < m
              · obtain ⟨q, hq⟩ : ∃ q, T[i]? = some q := ⟨_, List.getElem?_eq_getElem (by have := hTm.out; omega)⟩
                have hRw := hRT.out.nil' hO2
                obtain ⟨b2, o2, rfl, hc⟩ := hRw.at_ fEnc_len (by have := hTm.out; omega)
                exact .inl ⟨b2, o2, q.1, rfl, by simpa using hc i q 0 _ hq rfl, hat.out q hq, by omega, by simp; omega⟩
              · exact .inr ⟨by omega, by simp; omega, by simp; omega⟩
            replace hO2 := Lib.hid hO2
            replace hOe := Lib.hid hOe
            replace hsl := Lib.hid hsl
            replace hr1' := Lib.hid hr1'
            replace hr2w := Lib.hid hr2w
            replace hcellw := Lib.hid hcellw
            rcases hex with ⟨b2, o2, q, rfl, g0, hs', i1, i2⟩ | ⟨i1, i2, i3⟩
            all_goals
              go_wp2_with fail
              go_quiet (fail)
              go_wp2_with (first
                | (refine wpList_slice_of (o := ⟨some 54, _, _, _, _, _⟩) rfl _ _ _ _ _ rfl rfl rfl rfl rfl hs1.out ?_)
                | (at_builtin; refine wpList_append_new2 rfl (.tmp 51) (.tmp 54) rfl fElem (hOe.out _) rfl (hsl.out _) rfl (hr1'.out _) (by simp only [List.length_nil]; omega) (by unfold maxLen; simp only [List.length_nil]; omega) ?_; intro va wa hSa hOa _ _ _; obtain ⟨y1, y2, y0⟩ := hcellw.out wa hOa; rw [List.nil_append] at hSa; have hOb := hOa.alloc (.cells #[.string p2, .int .i64 p3] 32); have hSb := hSa.nil' ((Own.refl [] wa).alloc (.cells #[.string p2, .int .i64 p3] 32)); have hRb := Reads.new (enc := fEnc) (T := 32) wa (p2, p3) 1; replace hOb := Lib.hid hOb; replace hSb := Lib.hid hSb; replace hRb := Lib.hid hRb; clear hSa hOa)
                | (at_builtin; refine wpList_append_new2 rfl (.tmp 56) (.tmp 65) rfl fElem hOb.out rfl hSb.out rfl hRb.out (by simp only [List.length_singleton]; omega) (by unfold maxLen; simp only [List.length_singleton]; omega) ?_; intro vb wb hSb' hOc _ _ _; have hr2' := hr2w.out.nil' hOc; replace hOc := Lib.hid hOc; replace hSb' := Lib.hid hSb'; replace hr2' := Lib.hid hr2')
                | (refine wpList_slice_of (o := ⟨some 70, _, _, _, _, _⟩) rfl _ _ _ _ _ rfl rfl rfl rfl rfl hs2.out ?_)
                | (at_builtin; refine wpList_append_new2 rfl (.tmp 67) (.tmp 70) rfl fElem hOc.out rfl hSb'.out rfl hr2'.out (by simp only [List.length_append, List.length_singleton]; omega) (by unfold maxLen; simp only [List.length_append, List.length_singleton]; omega) ?_; intro vc wc hSc hOd _ _ _; obtain ⟨ac, capc, rfl⟩ := hSc.sl; rw [hlen3.out] at hSc ⊢; replace hOd := Lib.hid hOd; replace hSc := Lib.hid hSc))
              go_roundg (N - (j + 1))
              case measure => omega
              case rel => exact ⟨j + 1, _, ac, m + 1, capc, by simp, rfl, by omega, rfl, hst.out.symm, hlen3.out, hSc.out.mono (Nat.le_trans hO.out.size hO2.out.size), hO.out.trans (hO2.out.trans hOd.out)⟩
      · have h1' : (p1 == k) = false := by simpa using h1
        have h1n : (p1 != k) = true := by simpa using h1
        rw [if_neg h1] at hst
        replace hst := Lib.hid hst
        replace hT := Lib.hid hT
        replace hTm := Lib.hid hTm
        replace hSl := Lib.hid hSl
        replace hO := Lib.hid hO
        clear h1
        go_wp2_with fail
        go_roundg (N - (j + 1))
        case measure => omega
        case rel => exact ⟨j + 1, T, a1, m, c1, by simp, rfl, by omega, rfl, hst.out.symm, hTm.out, hSl.out, hO.out⟩
    · have j1 : ¬ (j : Int) < N := by omega
      have hfull : r.take j = r := List.take_of_length_le (by have := hN.out; omega)
      rw [hfull] at hT
      subst hT
      replace hSl := Lib.hid hSl
      replace hO := Lib.hid hO
      clear hTm hfull
      go_wp2_with fail
      go_ret
      exact ⟨_, rfl, hSl.out, hO.out⟩
end Go.Proofs.YtldagaliddgdjaaGreatDoor
