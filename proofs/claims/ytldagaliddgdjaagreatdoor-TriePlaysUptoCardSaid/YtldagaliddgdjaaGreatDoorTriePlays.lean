/- TriePlays: any filters, as they come and go: who wants any name, and what each one wants. -/
import Derived.Test.YtldagaliddgdjaaGreatDoorMrg7
import Derived.Test.YtldagaliddgdjaaGreatDoorTrieAwake
namespace Go.Proofs.YtldagaliddgdjaaGreatDoor
open Go.RowKit Go.Lib Go.Shelf Go.Sort

theorem StrRow.belowT {w w' : World} {a : Option Addr} {len : Nat} {ss : Nat → ByteArray} (h : StrRow w a len ss) (ho : Below w.heap.size w w') : StrRow w' a len ss := by
  refine ⟨h.1, fun hl => ?_⟩
  obtain ⟨b, o, rfl, hb, hx⟩ := h.2 hl
  have := ho.size
  exact ⟨b, o, rfl, by omega, fun i hi => (ho.cell (p := ⟨b, o + i, none⟩) hb).trans (hx i hi)⟩
theorem both_new {B : Nat} {w w1 : World} {t : Nat} {F : List Nat} (hB : B ≤ w.heap.size) (hF : TrieF w1 t F (fun _ => [])) (hn : ∀ x ∈ F, w.heap.size ≤ x) (hO : Own [] w w1) :
    Both B (w1.alloc (.cells #[.slice none 0 0] 29)) t F w1.heap.size (.slice none 0 0) (fun _ => []) [] :=
  ⟨hF.nil' ((Own.refl _ _).alloc _), ⟨heap_alloc_new _ _, Sl.nil _ _ _, by simp [Value.ownBlock]⟩, alike_nil, fun hx => by have := hF.lt _ hx; omega, fun g hg => by simp [Value.ownBlock] at hg, fun x hx => Nat.le_trans hB (hn x hx), Nat.le_trans hB hO.size, fun g hg => by simp [Value.ownBlock] at hg⟩

set_option maxRecDepth 100000 in
set_option maxHeartbeats 8000000 in
theorem plays_walk (a0 : Option Addr) (n0 c0 : Nat) (ms : Nat → AAct) (a1 : Option Addr) (n1 c1 : Nat) (ss : Nat → ByteArray) (w : World) (h0 : RowOf AAct.cells 4 w a0 n0 ms) (hz : ∀ i, i < n0 → (ms i).f.size ≤ 1048576) (h1 : StrRow w a1 n1 ss) (hT : Tabs w) :
    Calls Tryz.prog 3 #[.slice a0 n0 c0, .slice a1 n1 c1] w fun e w' => e = .returned (.bool true) ∧ Below w.heap.size w w' := by
  have hl0 : n0 ≤ 9223372036854775807 := by have := h0.1; simp only [maxLen] at this; omega
  have hl1 : n1 ≤ 9223372036854775807 := h1.1
  replace h0 := Lib.hid h0
  replace h1 := Lib.hid h1
  replace hz := Lib.hid hz
  replace hT := Lib.hid hT
  go_enter Tryz.func3, Tryz.ntmps3
  go_wp2_with fail
  refine (tnew_any _).mono ?_
  rintro e w1 ⟨t, F, rfl, hF, hn, hO⟩
  have hTB := both_new (Nat.le_refl _) hF hn hO
  have hB1 : Below w.heap.size w (w1.alloc (.cells #[.slice none 0 0] 29)) := (hO.alloc _).below (Nat.le_refl _) (by simp)
  replace hTB := Lib.hid hTB
  replace hB1 := Lib.hid hB1
  generalize hxb : w1.heap.size = xb at *
  clear hF hn hO
  go_wp2_with fail
  go_loopg [7] n0 (fun g s7 wr => ∃ (k : Nat) (F' : List Nat) (v : Value) (A : Wishes) (r : Ws), k ≤ n0 ∧ g = n0 - k ∧ s7 = .int .i64 k ∧ k ≤ 60 ∧ Aside (Both w.heap.size wr t F' xb v A r ∧ Below w.heap.size w wr))
  case atStart => exact ⟨0, F, _, _, _, by omega, by omega, rfl, by omega, hTB.out, hB1.out⟩
  case round =>
    obtain ⟨k, F', v, A, r, hk, rfl, rfl, hk6, hH, hB⟩ := hrel
    by_cases hlt : k < n0 ∧ k < 60
    · obtain ⟨b1, o1, rfl, hb1, hx⟩ := (h0.out.below hB).2 (by omega)
      have hxk := hx k hlt.1
      have cD := do_any w.heap.size t F' xb v A r (ms k) wr hH hB.size (hT.out.below hB) (hz.out k hlt.1)
      unfold DoC at cD
      generalize ms k = x at hxk cD
      obtain ⟨x1, x2, x3, x4⟩ := x
      simp only at cD
      have d0 : wr.cell? ⟨b1, o1 + k * 4, none⟩ = some (.int .i64 x1) := by simpa using hxk 0 _ rfl
      have d1 : wr.cell? ⟨b1, o1 + k * 4 + 1, none⟩ = some (.int .i64 x2) := hxk 1 _ rfl
      have d2 : wr.cell? ⟨b1, o1 + k * 4 + 2, none⟩ = some (.string x3) := hxk 2 _ rfl
      have d3 : wr.cell? ⟨b1, o1 + k * 4 + 3, none⟩ = some (.int .i64 x4) := hxk 3 _ rfl
      have hwk : IntKind.i64.wrap ((k : Int) + 1) = (k : Int) + 1 := IntWalk.i64_in _ (by omega)
      have k1 := hlt.1
      have k2 : (k : Int) < 60 := by omega
      have k0 : (0 : Int) ≤ k := by omega
      replace cD := Lib.hid cD
      replace hB := Lib.hid hB
      clear hx hxk hH hlt
      go_wp2_with (first
        | (go_at_call 5; (with_reducible refine cD.out.mono ?_); rintro e w2 ⟨rfl, F2, v2, A2, r2, hH2, hB2⟩; have cT := Lib.hid (tlen2_any t F2 A2 w2 hH2.tr); have cW := wlen_any xb v2 r2 w2 hH2.ws; rw [like_len hH2.like hH2.tr.keys] at cW; replace cW := Lib.hid cW; replace hH2 := Lib.hid hH2; replace hB2 := Lib.hid hB2)
        | (go_at_call 6; (with_reducible refine cT.out.mono ?_); rintro e w3 ⟨rfl, rfl⟩)
        | (go_at_call 7; (with_reducible refine cW.out.mono ?_); rintro e w3 ⟨rfl, rfl⟩))
      go_roundg (n0 - (k + 1))
      case measure => omega
      case rel => exact ⟨k + 1, F2, v2, A2, r2, by omega, by omega, by simp, by omega, hH2.out, hB.out.trans hB2.out⟩
    · have hex : (¬ k < n0) ∨ (k < n0 ∧ ¬ ((k : Int) < 60)) := by
        by_cases h1 : k < n0
        · exact .inr ⟨h1, fun h2 => hlt ⟨h1, by omega⟩⟩
        · exact .inl h1
      obtain ⟨w5, h5⟩ : ∃ W : World, W = wr := ⟨_, rfl⟩
      subst h5
      replace hH := Lib.hid hH
      replace hB := Lib.hid hB
      clear hlt
      rcases hex with h2 | ⟨h2, h3⟩
      all_goals
        go_wp2_with fail
        go_loopg [8] n1 (fun g s8 wr => ∃ (j : Nat), j ≤ n1 ∧ g = n1 - j ∧ s8 = .int .i64 j ∧ j ≤ 20 ∧ Own [] w5 wr)
        case atStart => exact ⟨0, by omega, by omega, rfl, by omega, Own.refl _ _⟩
        case round =>
          obtain ⟨j, hj, rfl, rfl, hj6, hO⟩ := hrel
          have hBr : Below w.heap.size w wr := hB.out.trans (hO.below hB.out.size (by simp))
          by_cases hjl : j < n1 ∧ j < 20
          · obtain ⟨b1, o1, rfl, hb1, hx⟩ := (h1.out.belowT hBr).2 (by omega)
            have hxj := hx j hjl.1
            have hHr := hH.out.nil' hO
            have hHd := hHr.nil' ((Own.refl [] wr).drew)
            have cH := thits_any t F' A (ss j) wr.drew hHd.tr (hT.out.below (hBr.trans (((Own.refl [] wr).drew).below hBr.size (by simp))))
            have cW := fun W (ho : Own [] wr.drew W) => whits_any xb v r (ss j) W (hHd.ws.nil' ho) (Nat.le_trans hHd.short (by omega))
            have hlk := like_hits hHd.like hHd.tr.keys hHd.tr.filt hHd.tr.out (ss j)
            generalize ss j = nm at hxj cH cW hlk
            have hcell := fun W (ho : Own [] wr.drew W) => ((ho.cell (p := ⟨b1, o1 + j, none⟩) hb1 (by simp)).trans hxj : W.cell? ⟨b1, o1 + j, none⟩ = some (.string nm))
            have cS := fun (hs : List (Int × Int)) va vb W (hl8 : hs.length ≤ 8) (ha : Reads hEnc W va hs) (hb : Reads hEnc W vb hs) => sameH_any hs va vb W (by omega) ha hb
            have hwj : IntKind.i64.wrap ((j : Int) + 1) = (j : Int) + 1 := IntWalk.i64_in _ (by omega)
            have j1 := hjl.1
            have j2 : (j : Int) < 20 := by omega
            have j0 : (0 : Int) ≤ j := by omega
            generalize dHits r nm 8 = hs at cW hlk
            replace cH := Lib.hid cH
            replace cW := Lib.hid cW
            replace cS := Lib.hid cS
            replace hlk := Lib.hid hlk
            replace hcell := Lib.hid hcell
            replace hO := Lib.hid hO
            replace hBr := Lib.hid hBr
            clear hx hHr hHd hjl
            go_wp2_with fail
            go_region_held3 (fun W => W.cell? ⟨b1, o1 + j, none⟩ = some (.string nm))
              (first | go_keep | exact kA | exact kB | exact kC)
              ((first
                | (go_at_call 9; (with_reducible refine cH.out.mono ?_); rintro e w6 ⟨va, hs6, rfl, hh, hl8, hS6, hO6⟩; obtain rfl : hs6 = hs := hits_same (fun _ => List.Perm.refl _) hh hlk.out; have kA := hcell.out _ hO6; have cW6 := Lib.hid (cW.out _ hO6); have hS6 := Lib.hid (hS6.reads hEnc_len); replace hl8 := Lib.hid hl8; replace hO6 := Lib.hid hO6; clear hh)
                | (go_at_call 10; (with_reducible refine cW6.out.mono ?_); rintro e w7 ⟨vb, rfl, hS7, hO7⟩; have kB := hcell.out _ (hO6.out.trans hO7); have cS7 := Lib.hid (cS.out _ _ _ w7 hl8.out (hS6.out.nil' hO7) (hS7.reads hEnc_len)); replace hO7 := Lib.hid (hO6.out.trans hO7); clear hS7)
                | (go_at_call 8; (with_reducible refine cS7.out.mono ?_); rintro e w8 ⟨rfl, hO8⟩; have kC := hcell.out _ (hO7.out.trans hO8); replace hO8 := Lib.hid (hO7.out.trans hO8))))
            all_goals
              go_wp2_with fail
              go_roundg (n1 - (j + 1))
              case measure => omega
              case rel => exact ⟨j + 1, by omega, by omega, by simp, by omega, hO.out.drew.trans hO8.out⟩
          · have hex2 : (¬ j < n1) ∨ (j < n1 ∧ ¬ ((j : Int) < 20)) := by
              by_cases h1 : j < n1
              · exact .inr ⟨h1, fun h2 => hjl ⟨h1, by omega⟩⟩
              · exact .inl h1
            replace hO := Lib.hid hO
            replace hBr := Lib.hid hBr
            clear hjl
            rcases hex2 with h4 | ⟨h4, h5⟩
            all_goals
              go_wp2_with fail
              go_loopg [9] 10 (fun g s9 wr => ∃ (who : Int), -1 ≤ who ∧ who ≤ 9 ∧ g = (9 - who).toNat ∧ s9 = .int .i64 who ∧ Own [] w5 wr)
              case atStart => exact ⟨-1, by omega, by omega, rfl, rfl, hO.out⟩
              case round =>
                obtain ⟨who, hw0, hw9, rfl, rfl, hO2⟩ := hrel
                by_cases hw8 : who ≤ 8
                · have hHr := hH.out.nil' hO2
                  have cT := tof_any t F' A who wr hHr.tr
                  have cW := fun W (ho : Own [] wr W) => wof_any xb v r who W (hHr.ws.nil' ho) (Nat.le_trans hHr.short (by omega))
                  have hlk := like_of hHr.like hHr.tr.keys who
                  have hcp := hHr.tr.cap
                  have cS := fun (R : List (ByteArray × Int)) va vb W (hl : R.length ≤ 16) (ha : Reads fEnc W va R) (hb : Reads fEnc W vb R) => sameF_any R va vb W (by omega) ha hb
                  have hww : IntKind.i64.wrap (who + 1) = who + 1 := IntWalk.i64_in _ (by omega)
                  generalize dOf r who = R at cW hlk
                  have hRl := tOf_len hcp hlk
                  replace cT := Lib.hid cT
                  replace cW := Lib.hid cW
                  replace cS := Lib.hid cS
                  replace hlk := Lib.hid hlk
                  replace hRl := Lib.hid hRl
                  replace hO2 := Lib.hid hO2
                  clear hHr hcp
                  go_wp2_with (first
                    | (go_at_call 12; (with_reducible refine cT.out.mono ?_); rintro e w6 ⟨va, R6, rfl, hh, hS6, hO6⟩; obtain rfl : R6 = R := of_same (fun _ => List.Perm.refl _) hh hlk.out; have cW6 := Lib.hid (cW.out _ hO6); have hS6 := Lib.hid (hS6.reads fEnc_len); replace hO6 := Lib.hid hO6; clear hh)
                    | (go_at_call 13; (with_reducible refine cW6.out.mono ?_); rintro e w7 ⟨vb, rfl, hS7, hO7⟩; have cS7 := Lib.hid (cS.out _ _ _ w7 hRl.out (hS6.out.nil' hO7) (hS7.reads fEnc_len)); replace hO7 := Lib.hid (hO6.out.trans hO7); clear hS7)
                    | (go_at_call 11; (with_reducible refine cS7.out.mono ?_); rintro e w8 ⟨rfl, hO8⟩; replace hO8 := Lib.hid (hO7.out.trans hO8)))
                  go_roundg (9 - (who + 1)).toNat
                  case measure => omega
                  case rel => exact ⟨who + 1, by omega, by omega, rfl, rfl, hO2.out.trans hO8.out⟩
                · have hBe : Below w.heap.size w wr := hB.out.trans (hO2.below hB.out.size (by simp))
                  have cA := tawake_any wr (hT.out.below hBe)
                  replace cA := Lib.hid cA
                  replace hBe := Lib.hid hBe
                  clear hO2
                  go_wp2_with (go_at_call 14; (with_reducible refine cA.out.mono ?_); rintro e w9 ⟨rfl, hO9⟩; replace hO9 := Lib.hid hO9)
                  go_ret
                  exact ⟨rfl, hBe.out.trans (hO9.out.below hBe.out.size (by simp))⟩
end Go.Proofs.YtldagaliddgdjaaGreatDoor
