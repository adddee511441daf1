/- TrieOrder: filters that have room come to the same in their order, and turned round. -/
import Derived.Test.YtamclcdcpaiojaaDoorTrieOrd
import Derived.Test.YtamclcdcpaiojaaDoorTrieSame
namespace Go.Proofs.YtamclcdcpaiojaaDoor
open Go.RowKit Go.Lib Go.Shelf Go.Sort

theorem Reads.cells {α : Type} {enc : α → List Value} {k : Nat} {w : World} {b o n c : Nat} {l : List α} (h : Reads enc w (.slice (some ⟨b, o, none⟩) n c) l) (hk : ∀ x, (enc x).length = k) {i j : Nat} {x : α} {v : Value} (hx : l[i]? = some x) (hv : (enc x)[j]? = some v) : w.cell? ⟨b, o + i * k + j, none⟩ = some v := by
  have hl : 0 < l.length := by have := (List.getElem?_eq_some_iff.1 hx).1; omega
  obtain ⟨b0, o0, he, hca⟩ := h.at_ hk hl
  cases he
  rw [Nat.add_assoc]
  exact hca i x j v hx hv
theorem nodup_snoc {T : List (ByteArray × Int)} {x1 : ByteArray} {x2 : Int} (h : (T.map (·.1)).Nodup) (hn : (T.any fun y => y.1 == x1) = false) : ((T ++ [(x1, x2)]).map (·.1)).Nodup := by
  rw [List.map_append, List.nodup_append]
  refine ⟨h, by simp, ?_⟩
  intro a ha b hb
  simp only [List.map_cons, List.map_nil, List.mem_singleton] at hb
  obtain ⟨y, hy, rfl⟩ := List.mem_map.1 ha
  rw [List.any_eq_false] at hn
  have := hn y hy
  intro e
  apply this
  simp [e, hb]

set_option maxRecDepth 100000 in
set_option maxHeartbeats 4000000 in
theorem order_walk (a0 : Option Addr) (n0 c0 : Nat) (ms : Nat → ByteArray × Int) (nm : ByteArray) (w : World) (h0 : RowOf fEnc 2 w a0 n0 ms) (_z : nm.size ≤ 140737488351232) (hT : Tabs w) :
    Calls Tryd.prog 3 #[.slice a0 n0 c0, .string nm] w fun e w' => e = .returned (.bool true) ∧ Below w.heap.size w w' := by
  have hl0 : n0 ≤ 9223372036854775807 := by have := h0.1; simp only [maxLen] at this; omega
  replace h0 := Lib.hid h0
  replace hT := Lib.hid hT
  have cN := tnew_any
  go_enter Tryd.func3, Tryd.ntmps3
  go_wp2_with fail
  refine (cN w).mono ?_
  rintro e w1 ⟨t1, F1, rfl, hF1, hn1, hO1⟩
  replace hF1 := Lib.hid hF1
  replace hn1 := Lib.hid hn1
  replace hO1 := Lib.hid hO1
  go_wp2_with fail
  refine (cN w1).mono ?_
  rintro e w2 ⟨t2, F2, rfl, hF2, hn2, hO2⟩
  replace hF2 := Lib.hid hF2
  replace hn2 := Lib.hid hn2
  replace hO2 := Lib.hid hO2
  clear cN
  have hB2 : Hid (Below w.heap.size w w2) := Lib.hid ((hO1.out.trans hO2.out).below (Nat.le_refl _) (by simp))
  go_wp2_with fail
  go_loopg [7, 8, 9, 10] n0 (fun g s7 s8 s9 s10 wr => ∃ (i : Nat) (T : List (ByteArray × Int)) (a1 : Option Addr) (m c1 : Nat), s8 = .int .i64 i ∧ s7 = .slice a1 m c1 ∧ i ≤ n0 ∧ g = n0 - i ∧ m ≤ 16 ∧ Aside (T.length = m ∧ Sl 26 fEnc 2 w2.heap.size wr (.slice a1 m c1) T ∧ Own [] w2 wr ∧ (T.map (·.1)).Nodup))
  case atStart => exact ⟨0, [], none, 0, 0, rfl, rfl, by omega, rfl, by omega, rfl, Sl.nil _ _ _, Own.refl _ _, by simp⟩
  case round =>
    obtain ⟨i, T, a1, m, c1, rfl, rfl, hi, rfl, hm16, hTm, hSl, hO, hnd⟩ := hrel
    obtain ⟨wo, hwo⟩ : ∃ W : World, W = wr := ⟨_, rfl⟩
    subst hwo
    have hB : Below w.heap.size w wo := hB2.out.trans (hO.below hB2.out.size (by simp))
    replace hTm := Lib.hid hTm
    replace hnd := Lib.hid hnd
    by_cases hlt : i < n0 ∧ m < 16
    · obtain ⟨b1, o1, rfl, hb1, hx⟩ := (h0.out.below hB).2 (by omega)
      have hxk := hx i hlt.1
      generalize ms i = x at hxk
      obtain ⟨x1, x2⟩ := x
      have d0 : wo.cell? ⟨b1, o1 + i * 2, none⟩ = some (.string x1) := by simpa using hxk 0 _ rfl
      have d1 : wo.cell? ⟨b1, o1 + i * 2 + 1, none⟩ = some (.int .i64 x2) := hxk 1 _ rfl
      have hi1 := hlt.1
      have hwi : IntKind.i64.wrap ((i : Int) + 1) = (i : Int) + 1 := IntWalk.i64_in _ (by omega)
      have hi2 : (i : Int) < n0 := by omega
      have hi0 : (0 : Int) ≤ i := by omega
      have hm1 : (m : Int) < 16 := by omega
      have hRd := hSl.reads fEnc_len
      replace hRd := Lib.hid hRd
      have hSl := Lib.hid hSl
      replace hO := Lib.hid hO
      replace hB := Lib.hid hB
      have d0h := Lib.hid d0
      have d1h := Lib.hid d1
      clear hx hxk d0 d1
      go_wp2_with fail
      go_loopg [9, 10] m (fun g s9 s10 wr => ∃ (k : Nat) (b : Bool), s10 = .int .i64 k ∧ s9 = .bool b ∧ k ≤ m ∧ g = m - k ∧ Aside (b = (T.take k).any (fun y => y.1 == x1) ∧ Own [] wo wr))
      case atStart => exact ⟨0, false, rfl, rfl, by omega, rfl, rfl, Own.refl _ _⟩
      case round =>
        obtain ⟨k, b, rfl, rfl, hk, rfl, hb, hOk⟩ := hrel
        have hwk : IntKind.i64.wrap ((k : Int) + 1) = (k : Int) + 1 := IntWalk.i64_in _ (by omega)
        have d0 := (hOk.cell (block_lt_of_cell d0h.out) (by simp)).trans d0h.out
        have d1 := (hOk.cell (block_lt_of_cell d1h.out) (by simp)).trans d1h.out
        by_cases hkm : k < m
        · have k1 : (k : Int) < m := by omega
          have k0 : (0 : Int) ≤ k := by omega
          have hy := List.getElem?_eq_getElem (show k < T.length by have := hTm.out; omega)
          generalize (T[k]'(by have := hTm.out; omega)) = y at hy
          obtain ⟨y1, y2⟩ := y
          have hRk := hRd.out.nil' hOk
          obtain ⟨b2, o2, rfl⟩ : ∃ b2 o2, a1 = some ⟨b2, o2, none⟩ := by
            rw [← hTm.out] at hRk
            obtain ⟨b2, o2, rfl, _⟩ := hRk.at_ fEnc_len (by have := hTm.out; omega)
            exact ⟨b2, o2, rfl⟩
          have e0 : wr.cell? ⟨b2, o2 + k * 2, none⟩ = some (.string y1) := by simpa using hRk.cells fEnc_len hy (j := 0) rfl
          have hnx : (T.take (k + 1)).any (fun y => y.1 == x1) = (b || (y1 == x1)) := by
            rw [List.take_add_one, hy, List.any_append, hb]; simp
          replace hOk := Lib.hid hOk
          replace hnx := Lib.hid hnx
          clear hRk hy hb
          cases b
          all_goals
            go_wp2_with fail
            go_region
            all_goals
              go_wp2_with fail
              go_roundg (m - (k + 1))
              case measure => omega
              case rel => exact ⟨k + 1, _, by simp, rfl, by omega, rfl, by rw [hnx.out, eq_toList]; simp, hOk.out.drew⟩
        · have k1 : ¬ (k : Int) < m := by omega
          have hfull : T.take k = T := List.take_of_length_le (by have := hTm.out; omega)
          rw [hfull] at hb
          have hOw : Own [] w2 wr := hO.out.trans hOk
          have hSk := hSl.out.nil' hOk
          replace hOw := Lib.hid hOw
          replace hSk := Lib.hid hSk
          clear hfull hOk
          cases b
          · have hnd2 := Lib.hid (nodup_snoc (x2 := x2) hnd.out hb.symm)
            have hRb := Reads.new (enc := fEnc) (T := 26) wr (x1, x2) 1
            have hSb := hSk.out.nil' ((Own.refl [] wr).alloc (.cells #[.string x1, .int .i64 x2] 26))
            have hOb := hOw.out.alloc (.cells #[.string x1, .int .i64 x2] 26)
            replace hRb := Lib.hid hRb
            replace hSb := Lib.hid hSb
            replace hOb := Lib.hid hOb
            have hl1 := Lib.hid (show (T.length + [(x1, x2)].length) * 24 ≤ 140737488355328 by have := hTm.out; simp only [List.length_singleton]; omega)
            have hl2 := Lib.hid (show T.length + [(x1, x2)].length ≤ maxLen by have := hTm.out; unfold maxLen; simp only [List.length_singleton]; omega)
            have hlm : m + 1 ≤ 16 := by omega
            have hlm2 := Lib.hid (show (T ++ [(x1, x2)]).length = m + 1 by have := hTm.out; simp [this])
            clear hb
            go_wp2_with (at_builtin; refine wpList_append_new2 rfl (.tmp 48) (.tmp 53) rfl fElem hOb.out rfl hSb.out rfl hRb.out hl1.out hl2.out ?_; intro v5 w5 hS5 hO5 _ _ _; obtain ⟨a5, c5, rfl⟩ := hS5.sl; rw [hlm2.out] at hS5 ⊢; replace hS5 := Lib.hid hS5; replace hO5 := Lib.hid hO5)
            go_roundg (n0 - (i + 1))
            case measure => omega
            case rel => exact ⟨i + 1, _, a5, m + 1, c5, by simp, rfl, by omega, rfl, by omega, hlm2.out, hS5.out, hO5.out, hnd2.out⟩
          · clear hb
            go_wp2_with fail
            go_roundg (n0 - (i + 1))
            case measure => omega
            case rel => exact ⟨i + 1, T, a1, m, c1, by simp, rfl, by omega, rfl, by omega, hTm.out, hSk.out, hOw.out, hnd.out⟩
    · have hex : (¬ i < n0) ∨ (i < n0 ∧ ¬ ((m : Int) < 16)) := by
        by_cases h1 : i < n0
        · exact .inr ⟨h1, fun h2 => hlt ⟨h1, by omega⟩⟩
        · exact .inl h1
      clear hlt
      obtain ⟨w5, h5⟩ : ∃ W : World, W = wo := ⟨_, rfl⟩
      subst h5
      have hTwo : Two w.heap.size w5 t1 t2 F1 F2 (fun _ => []) (fun _ => []) (.slice a1 m c1) T := by
        have hOa : Own [] w1 w5 := hO2.out.trans hO
        have hz1 := hO1.out.size
        have hz2 := hO2.out.size
        have hz5 := hO.size
        have l1 := hF1.out.lt
        have l2 := hF2.out.lt
        refine ⟨hF1.out.nil' hOa, hF2.out.nil' hO, fun x hx hy => ?_, hn1.out, fun x hx => ?_, hSl.reads fEnc_len, fun g hg => ?_, by omega⟩
        · have := l1 x hx; have := hn2.out x hy; omega
        · have := hn2.out x hx; omega
        · have hb := hSl.block hg
          exact ⟨fun hx => by have := l1 g hx; omega, fun hx => by have := l2 g hx; omega, hb.2⟩
      replace hTwo := Lib.hid hTwo
      replace hB := Lib.hid hB
      clear hSl hO
      rcases hex with h2 | ⟨h2, h3⟩
      all_goals
        go_wp2_with fail
        go_loopg [11] m (fun g s11 wr => ∃ (j : Nat) (A B : Wishes) (Fa Fb : List Nat), s11 = .int .i64 j ∧ j ≤ m ∧ g = m - j ∧ Aside (Two w.heap.size wr t1 t2 Fa Fb A B (.slice a1 m c1) T ∧ Sp T A (fun i => i < j) j ∧ Sp T B (fun i => m ≤ i + j ∧ i < m) j ∧ Below w.heap.size w wr))
        case atStart => exact ⟨0, _, _, F1, F2, rfl, by omega, rfl, hTwo.out, Sp.nothing _ _ (fun _ => by omega), Sp.nothing _ _ (fun _ => by omega), hB.out⟩
        case round =>
          obtain ⟨j, A, B, Fa, Fb, rfl, hj, rfl, hTw, hSA, hSB, hBw⟩ := hrel
          have hwj : IntKind.i64.wrap ((j : Int) + 1) = (j : Int) + 1 := IntWalk.i64_in _ (by omega)
          by_cases hjm : j < m
          · have j1 : (j : Int) < m := by omega
            have j0 : (0 : Int) ≤ j := by omega
            obtain ⟨q0, hq0⟩ : ∃ q0, q0 + 1 = m := ⟨m - 1, by omega⟩
            obtain ⟨p, hp⟩ : ∃ p, p + j = q0 := ⟨q0 - j, by omega⟩
            have hwm : IntKind.i64.wrap ((m : Int) - 1) = (q0 : Int) := by rw [show (m : Int) - 1 = (q0 : Int) by omega]; exact IntWalk.i64_in _ (by omega)
            have hwp : IntKind.i64.wrap ((q0 : Int) - (j : Int)) = (p : Int) := by rw [show (q0 : Int) - (j : Int) = (p : Int) by omega]; exact IntWalk.i64_in _ (by omega)
            have p1 : (p : Int) < m := by omega
            have p0 : (0 : Int) ≤ p := by omega
            have hx := List.getElem?_eq_getElem (show j < T.length by have := hTm.out; omega)
            have hy := List.getElem?_eq_getElem (show p < T.length by have := hTm.out; omega)
            generalize (T[j]'(by have := hTm.out; omega)) = x at hx
            generalize (T[p]'(by have := hTm.out; omega)) = y at hy
            obtain ⟨x1, x2⟩ := x
            obtain ⟨y1, y2⟩ := y
            obtain ⟨b2, o2, rfl⟩ : ∃ b2 o2, a1 = some ⟨b2, o2, none⟩ := by
              have hRk := hTw.rd
              rw [← hTm.out] at hRk
              obtain ⟨b2, o2, rfl, _⟩ := hRk.at_ fEnc_len (by have := hTm.out; omega)
              exact ⟨b2, o2, rfl⟩
            have d0 : wr.cell? ⟨b2, o2 + j * 2, none⟩ = some (.string x1) := by simpa using hTw.rd.cells fEnc_len hx (j := 0) rfl
            have d1 : wr.cell? ⟨b2, o2 + j * 2 + 1, none⟩ = some (.int .i64 x2) := hTw.rd.cells fEnc_len hx (j := 1) rfl
            have hey : ∀ W, Reads fEnc W (.slice (some ⟨b2, o2, none⟩) m c1) T → W.cell? ⟨b2, o2 + p * 2, none⟩ = some (.string y1) ∧ W.cell? ⟨b2, o2 + p * 2 + 1, none⟩ = some (.int .i64 y2) := fun W h => ⟨by simpa using h.cells fEnc_len hy (j := 0) rfl, h.cells fEnc_len hy (j := 1) rfl⟩
            have hSA2 := Sp.add (P' := fun i => i < j + 1) hSA hnd.out hx (by omega) (fun i => by omega) (by omega)
            have hSB2 := Sp.add (P' := fun i => m ≤ i + (j + 1) ∧ i < m) hSB hnd.out hy (by omega) (fun i => by omega) (by omega)
            obtain ⟨rj, hrj⟩ : ∃ r, j % 3 = r := ⟨_, rfl⟩
            obtain ⟨rp, hrp⟩ : ∃ r, p % 3 = r := ⟨_, rfl⟩
            have hpj : (j : Int).tmod 3 = (rj : Int) := by rw [← hrj]; exact (Int.ofNat_tmod j 3).symm
            have hpp : (p : Int).tmod 3 = (rp : Int) := by rw [← hrp]; exact (Int.ofNat_tmod p 3).symm
            have hpj2 : (j : Int) % 3 = (rj : Int) := by omega
            have hpp2 : (p : Int) % 3 = (rp : Int) := by omega
            rw [hrj] at hSA2
            rw [hrp] at hSB2
            have cA := tadd_any t1 Fa A rj x1 x2 wr hTw.a (hT.out.below hBw)
            have cB := fun W F h hb => tadd_any t2 F B rp y1 y2 W h (hT.out.below hb)
            generalize tAdd A rj x1 x2 = rA at cA hSA2
            generalize tAdd B rp y1 y2 = rB at cB hSB2
            obtain ⟨⟨ra, re⟩, A'⟩ := rA
            obtain ⟨⟨rb, rg⟩, B'⟩ := rB
            simp only at cA cB hSA2 hSB2
            replace hq0 := Lib.hid hq0
            replace hp := Lib.hid hp
            replace hrj := Lib.hid hrj
            replace hrp := Lib.hid hrp
            replace hey := Lib.hid hey
            replace hSA2 := Lib.hid hSA2
            replace hSB2 := Lib.hid hSB2
            replace cA := Lib.hid cA
            replace cB := Lib.hid cB
            replace hTw := Lib.hid hTw
            replace hBw := Lib.hid hBw
            clear hx hy hSA hSB
            go_wp2_with (first
              | (go_at_call 8; (with_reducible refine cA.out.mono ?_); rintro e w6 ⟨rfl, hL⟩; obtain ⟨⟨Fa3, hT3⟩, hb3⟩ := hTw.out.addA hL; have hB3 := hBw.out.trans hb3; obtain ⟨e0, e1⟩ := hey.out w6 hT3.rd; have cB3 := cB.out w6 Fb hT3.b hB3; replace cB3 := Lib.hid cB3; replace hT3 := Lib.hid hT3; replace hB3 := Lib.hid hB3; clear hL hb3)
              | (go_at_call 8; (with_reducible refine cB3.out.mono ?_); rintro e w7 ⟨rfl, hL⟩; obtain ⟨⟨Fb3, hT4⟩, hb4⟩ := hT3.out.addB hL; have hB4 := hB3.out.trans hb4; replace hT4 := Lib.hid hT4; replace hB4 := Lib.hid hB4; clear hL hb4))
            go_roundg (m - (j + 1))
            case measure => omega
            case rel => exact ⟨j + 1, A', B', Fa3, Fb3, by simp, by omega, rfl, hT4.out, hSA2.out, hSB2.out, hB4.out⟩
          · have j1 : ¬ (j : Int) < m := by omega
            have hperm : ∀ k, (A k).Perm (B k) := Sp.same hSA hSB (fun i hi => by have := hTm.out; omega) hTw.a.keys hTw.b.keys
            replace hperm := Lib.hid hperm
            replace hTw := Lib.hid hTw
            replace hBw := Lib.hid hBw
            clear hSA hSB
            obtain ⟨wo, hwo⟩ : ∃ W : World, W = wr := ⟨_, rfl⟩
            subst hwo
            go_wp2_with fail
            go_loopg [12] 3 (fun g s12 wr => ∃ (i : Nat), i ≤ 3 ∧ g = 3 - i ∧ s12 = .int .i64 i ∧ Own [] wo wr)
            case atStart => exact ⟨0, by omega, rfl, rfl, Own.refl _ _⟩
            case round =>
              obtain ⟨i, hi, rfl, rfl, hO⟩ := hrel
              by_cases hi3 : i < 3
              · have i1 : (i : Int) < 3 := by omega
                have hwi : IntKind.i64.wrap ((i : Int) + 1) = (i : Int) + 1 := IntWalk.i64_in _ (by omega)
                have cO1 := Lib.hid (tof_any t1 Fa A i wr (hTw.out.a.nil' hO))
                have cO2 := Lib.hid (fun W (ho : Own [] wo W) => tof_any t2 Fb B i W (hTw.out.b.nil' ho))
                replace hO := Lib.hid hO
                go_wp2_with (first
                  | (go_at_call 10; (with_reducible refine cO1.out.mono ?_); rintro e w6 ⟨v6, R6, rfl, hR6, hS6, hO6⟩; have hO6 := hO.out.trans hO6; have c2 := Lib.hid (cO2.out w6 hO6); replace hO6 := Lib.hid hO6; replace hR6 := Lib.hid hR6; replace hS6 := Lib.hid hS6)
                  | (go_at_call 10; (with_reducible refine c2.out.mono ?_); rintro e w7 ⟨v7, R7, rfl, hR7, hS7, hO7⟩; have hRR : R6 = R7 := of_same hperm.out hR6.out hR7; subst hRR; have cS := Lib.hid (sameF_any R6 v6 v7 w7 (by have := tOf_len hTw.out.a.cap hR6.out; omega) ((hS6.out.reads fEnc_len).nil' hO7) (hS7.reads fEnc_len)); replace hO7 := Lib.hid (hO6.out.trans hO7); clear hR7 hS7)
                  | (go_at_call 9; (with_reducible refine cS.out.mono ?_); rintro e w8 ⟨rfl, hO8⟩; replace hO8 := Lib.hid (hO7.out.trans hO8)))
                go_roundg (3 - (i + 1))
                case measure => omega
                case rel => exact ⟨i + 1, by omega, rfl, by simp, hO8.out⟩
              · obtain rfl : i = 3 := by omega
                have hBl : Below w.heap.size w wr := hBw.out.trans (hO.below hBw.out.size (by simp))
                have cH1 := Lib.hid (thits_any t1 Fa A nm wr (hTw.out.a.nil' hO) (hT.out.below hBl))
                have hBo := Lib.hid (fun W (ho : Own [] wo W) => hBw.out.trans (ho.below hBw.out.size (by simp)))
                have cH2 := Lib.hid (fun W (ho : Own [] wo W) => thits_any t2 Fb B nm W (hTw.out.b.nil' ho) (hT.out.below (hBo.out W ho)))
                have cL1 := Lib.hid (fun W (ho : Own [] wo W) => tlen2_any t1 Fa A W (hTw.out.a.nil' ho))
                have cL2 := Lib.hid (fun W (ho : Own [] wo W) => tlen2_any t2 Fb B W (hTw.out.b.nil' ho))
                have cA := Lib.hid (fun W (ho : Own [] wo W) => tawake_any W (hT.out.below (hBo.out W ho)))
                have hln := Lib.hid (len_same hperm.out)
                generalize tLen B = lb at cL2 hln
                generalize tLen A = la at cL1 hln
                obtain rfl := hln.out
                replace hO := Lib.hid hO
                clear hBl
                go_wp2_with (first
                  | (go_at_call 12; (with_reducible refine cH1.out.mono ?_); rintro e w6 ⟨v6, R6, rfl, hR6, hl6, hS6, hO6⟩; have hO6 := hO.out.trans hO6; have c2 := Lib.hid (cH2.out w6 hO6); replace hO6 := Lib.hid hO6; replace hR6 := Lib.hid hR6; replace hS6 := Lib.hid hS6)
                  | (go_at_call 12; (with_reducible refine c2.out.mono ?_); rintro e w7 ⟨v7, R7, rfl, hR7, _, hS7, hO7⟩; have hRR : R6 = R7 := hits_same hperm.out hR6.out hR7; subst hRR; have cS := Lib.hid (sameH_any R6 v6 v7 w7 (by omega) ((hS6.out.reads hEnc_len).nil' hO7) (hS7.reads hEnc_len)); replace hO7 := Lib.hid (hO6.out.trans hO7); clear hR7 hS7)
                  | (go_at_call 11; (with_reducible refine cS.out.mono ?_); rintro e w8 ⟨rfl, hO8⟩; have hO8 := hO7.out.trans hO8; have l1 := Lib.hid (cL1.out w8 hO8); have l2 := Lib.hid (cL2.out w8 hO8); have cA8 := Lib.hid (cA.out w8 hO8); replace hO8 := Lib.hid hO8)
                  | (go_at_call 13; (with_reducible refine l1.out.mono ?_); rintro e w' ⟨rfl, rfl⟩)
                  | (go_at_call 13; (with_reducible refine l2.out.mono ?_); rintro e w' ⟨rfl, rfl⟩)
                  | (go_at_call 14; (with_reducible refine cA8.out.mono ?_); rintro e w9 ⟨rfl, hO9⟩; have hO10 := Lib.hid (hBo.out w9 (hO8.out.trans hO9))))
                go_ret
                exact ⟨rfl, hO10.out⟩
end Go.Proofs.YtamclcdcpaiojaaDoor
