/- RetainPlays: any messages, any filters: the store answers as the document's. -/
import Derived.Test.YthepdibnnnednaaDoorRetainRefKeep
import Derived.Test.YthepdibnnnednaaDoorRetainFinds
import Derived.Deep.RegionHeld3
namespace Go.Proofs.YthepdibnnnednaaDoor
open Go.RowKit Go.Sort Go.Lib Go.Shelf

/-- Both stores, side by side; nothing of them is older than B. -/
structure Both (B : Nat) (w : World) (b m : Nat) (l : Msgs) (xb : Nat) (v : Value) (r : List Ms) : Prop where
  store : Store w b m l
  doc : DocS w xb v r
  good : GoodSt l
  like : Like l r
  nb : xb ≠ b
  nm : xb ≠ m
  own : ∀ g, v.ownBlock = some g → g ≠ b ∧ g ≠ m ∧ B ≤ g
  old : B ≤ b ∧ B ≤ m ∧ B ≤ xb
theorem Both.nil' {B : Nat} {w w' : World} {b m : Nat} {l : Msgs} {xb : Nat} {v : Value} {r : List Ms} (h : Both B w b m l xb v r) (ho : Own [] w w') : Both B w' b m l xb v r :=
  ⟨h.store.own ho (by simp) (by simp), h.doc.nil' ho, h.good, h.like, h.nb, h.nm, h.own, h.old⟩
theorem Both.len {B : Nat} {w : World} {b m : Nat} {l : Msgs} {xb : Nat} {v : Value} {r : List Ms} (h : Both B w b m l xb v r) : r.length ≤ 32 := by rw [like_len h.like]; exact h.good.2
theorem Both.keep {B : Nat} {w : World} {b m : Nat} {l : Msgs} {xb : Nat} {v : Value} {r : List Ms} (h : Both B w b m l xb v r) (hB : B ≤ w.heap.size) (x : Ms) {w2 w3 : World} (hS : Store w2 b m (rKeep l x).2) (hO : Own [m] w w2) {v' : Value} (hD : DocS w3 xb v' (dKeep r x).2)
    (hO2 : Own (xb :: v.ownBlock.toList) w2 w3) (hg : ∀ g, v'.ownBlock = some g → v.ownBlock = some g ∨ w2.heap.size ≤ g) : Both B w3 b m (rKeep l x).2 xb v' (dKeep r x).2 ∧ Below B w w3 := by
  have hx : ∀ y ∈ xb :: v.ownBlock.toList, y ≠ b ∧ y ≠ m ∧ B ≤ y := by
    intro y hy
    rcases List.mem_cons.1 hy with rfl | hy
    · exact ⟨h.nb, h.nm, h.old.2.2⟩
    · exact h.own y (Option.mem_toList.1 hy)
  refine ⟨⟨hS.own hO2 (fun hb => (hx _ hb).1 rfl) (fun hm => (hx _ hm).2.1 rfl), hD, keep_good x h.good, (like_keep h.good h.store.nodup h.like x).2, h.nb, h.nm, fun g hgv => ?_, h.old⟩, ?_⟩
  · rcases hg g hgv with h1 | h1
    · exact h.own g h1
    · have := hS.lt
      have := hO.size
      exact ⟨by omega, by omega, by omega⟩
  · exact (hO.below hB (by simp; exact h.old.2.1)).trans (hO2.below (Nat.le_trans hB hO.size) (fun y hy => (hx y hy).2.2))

set_option maxRecDepth 100000 in
set_option maxHeartbeats 4000000 in
theorem rplays_walk (a0 : Option Addr) (n0 c0 : Nat) (ms : Nat → Ms) (a1 : Option Addr) (n1 c1 : Nat) (ss : Nat → ByteArray) (w : World) (h0 : MsgRow w a0 n0 ms) (h1 : StrRow w a1 n1 ss) (hT : Tabs w) :
    Calls Tryd.prog 5 #[.slice a0 n0 c0, .slice a1 n1 c1] w fun e w' => e = .returned (.bool true) ∧ Below w.heap.size w w' := by
  have hl0 : n0 ≤ 9223372036854775807 := by have := h0.1; simp only [maxLen] at this; omega
  have hl1 : n1 ≤ 9223372036854775807 := h1.1
  have h1' := h1.2
  replace h0 := Lib.hid h0
  replace h1 := Lib.hid h1'
  replace hT := Lib.hid hT
  clear h1'
  go_enter Tryd.func5, Tryd.ntmps5
  go_wp2_with fail
  refine (new_any _).mono ?_
  rintro e w1 ⟨b, m, rfl, hS, hb, hm, hO⟩
  have hbl := hS.lt
  have hOx : Own [] w (w1.alloc (.cells #[.slice none 0 0] 40)) := hO.alloc _
  have hBo : Both w.heap.size (w1.alloc (.cells #[.slice none 0 0] 40)) b m [] w1.heap.size (.slice none 0 0) [] :=
    ⟨hS.own ((Own.refl [] _).alloc _) (by simp) (by simp), ⟨heap_alloc_new _ _, Sl.nil _ _ _, by simp [Value.ownBlock]⟩, goodSt_nil, like_nil, by omega, by omega, by simp [Value.ownBlock], hb, hm, hO.size⟩
  have hB1 : Below w.heap.size w (w1.alloc (.cells #[.slice none 0 0] 40)) := hOx.below (Nat.le_refl _) (by simp)
  obtain ⟨xb, hxb⟩ : ∃ xb, w1.heap.size = xb := ⟨_, rfl⟩
  rw [hxb] at hBo
  replace hBo := Lib.hid hBo
  replace hB1 := Lib.hid hB1
  clear hS hO hOx hbl
  go_wp2_with fail
  replace hxb := Lib.hid hxb
  go_loopg [7, 8, 9, 10, 11] n0 (fun g s7 s8 s9 s10 s11 wr => ∃ (k : Nat) (l : Msgs) (v : Value) (r : List Ms), k ≤ n0 ∧ g = n0 - k ∧ s7 = .int .i64 k ∧ k ≤ 80 ∧ Aside (Both w.heap.size wr b m l xb v r ∧ Below w.heap.size w wr))
  case atStart => exact ⟨0, [], _, [], by omega, by omega, rfl, by omega, hBo.out, hB1.out⟩
  case round =>
    obtain ⟨k, l, v, r, hk, rfl, rfl, hk8, hA⟩ := hrel
    obtain ⟨hH, hB⟩ := hA
    by_cases hlt : k < n0 ∧ k < 80
    · obtain ⟨b1, o1, rfl, hb1, hx⟩ := (h0.out.below hB).2 (by omega)
      have hb1w : b1 < w.heap.size := by
        obtain ⟨b2, o2, he, hb2, _⟩ := h0.out.2 (by omega)
        cases he; exact hb2
      have hxk := hx k hlt.1
      have hTr := hT.out.below hB
      have hK := keep_any b m l (ms k) wr hH.store hTr
      have hLk := like_keep hH.good hH.store.nodup hH.like (ms k)
      have hDk := fun W (ho : Own [m] wr W) => skeep_any xb v r (ms k) W (hH.doc.own' ho (by simpa using hH.nm) (fun g hg => by simpa using (hH.own g hg).2.1)) hH.len
      have hKp := fun w2 w3 hS hO v' hD hO2 hg => hH.keep (w2 := w2) (w3 := w3) hB.size (ms k) hS hO (v' := v') hD hO2 hg
      have hgl := keep_good (ms k) hH.good
      have hle := like_len hLk.2
      have hbm : b1 ≠ m := by have := hH.old.2.1; omega
      unfold KeepPost at hK
      unfold DKeepPost at hDk
      generalize rKeep l (ms k) = r1 at hK hLk hKp hgl hle
      generalize dKeep r (ms k) = r2 at hDk hLk hKp hle
      generalize ms k = x at hxk hK hDk
      obtain ⟨x1, x2, x3, x4⟩ := x
      obtain ⟨⟨was, code⟩, l'⟩ := r1
      obtain ⟨⟨was2, code2⟩, r'⟩ := r2
      obtain ⟨he, hLk2⟩ := hLk
      simp only [Prod.mk.injEq] at he
      obtain ⟨rfl, rfl⟩ := he
      simp only at hK hKp hDk hle hgl
      have d0 : wr.cell? ⟨b1, o1 + k * 4, none⟩ = some (.string x1) := hxk 0 _ rfl
      have d1 : wr.cell? ⟨b1, o1 + k * 4 + 1, none⟩ = some (.string x2) := hxk 1 _ rfl
      have d2 : wr.cell? ⟨b1, o1 + k * 4 + 2, none⟩ = some (.int .i64 x3) := hxk 2 _ rfl
      have d3 : wr.cell? ⟨b1, o1 + k * 4 + 3, none⟩ = some (.bool x4) := hxk 3 _ rfl
      have hdl := fun W (ho : Own [m] wr W) => And.intro ((ho.cell (p := ⟨b1, o1 + k * 4, none⟩) hb1 (by simpa using hbm)).trans d0) (And.intro ((ho.cell (p := ⟨b1, o1 + k * 4 + 1, none⟩) hb1 (by simpa using hbm)).trans d1) (And.intro ((ho.cell (p := ⟨b1, o1 + k * 4 + 2, none⟩) hb1 (by simpa using hbm)).trans d2) ((ho.cell (p := ⟨b1, o1 + k * 4 + 3, none⟩) hb1 (by simpa using hbm)).trans d3)))
      have k1 := hlt.1
      have k2 : (k : Int) < 80 := by omega
      simp only [Ms.val] at hK hDk
      obtain ⟨n, hn⟩ : ∃ n, l'.length = n := ⟨_, rfl⟩
      have hrn : r'.length = n := hle.trans hn
      replace hK := Lib.hid hK
      replace hDk := Lib.hid hDk
      replace hKp := Lib.hid hKp
      replace hdl := Lib.hid hdl
      replace hB := Lib.hid hB
      replace hn := Lib.hid hn
      replace hrn := Lib.hid hrn
      clear hx hxk hTr hH hLk2 hle hgl
      go_wp2_with (first
        | (go_at_call 9; refine hK.out.mono ?_; rintro e w2 ⟨rfl, hS2, hO2⟩; obtain ⟨e0, e1, e2, e3⟩ := hdl.out _ hO2; replace hS2 := Lib.hid hS2; replace hO2 := Lib.hid hO2)
        | (go_at_call 13; refine (hDk.out _ hO2.out).mono ?_; rintro e w3 ⟨rfl, v', hD3, hO3, hg3⟩; have hH3 := hKp.out _ _ hS2.out hO2.out _ hD3 hO3 hg3; have hL3 := fun q => len_any b m l' (w3.drewN q) (hH3.1.nil' ((Own.refl [] _).drewN q)).store; have c3 : w3.cell? ⟨xb, 0, none⟩ = some v' := cell_of_row w3 xb 0 _ _ _ hH3.1.doc.row; obtain ⟨av, cv, rfl⟩ := hH3.1.doc.own.sl; rw [hrn.out] at c3; rw [hn.out] at hL3; replace hH3 := Lib.hid hH3; replace hL3 := Lib.hid hL3; clear hD3 hO3 hg3))
      go_quiet ((go_at_call 12; exact Calls.quiet_of_same ((hL3.out _).mono (fun _ _ h => ⟨h.1, h.2.symm⟩))))
      go_wp2_with fail
      go_roundg (n0 - (k + 1))
      case measure => omega
      case rel => exact ⟨k + 1, l', _, r', by omega, by omega, by go_num, by omega, hH3.out.1.nil' ((Own.refl [] _).drewN _), (hB.out.trans hH3.out.2).trans (((Own.refl [] _).drewN _).below (hB.out.trans hH3.out.2).size (by simp))⟩
    · have hex : (¬ k < n0) ∨ (k < n0 ∧ ¬ ((k : Int) < 80)) := by
        by_cases h1 : k < n0
        · exact .inr ⟨h1, fun h2 => hlt ⟨h1, by omega⟩⟩
        · exact .inl h1
      replace hH := Lib.hid hH
      replace hB := Lib.hid hB
      clear hlt
      obtain ⟨w5, h5⟩ : ∃ W : World, W = wr := ⟨_, rfl⟩
      subst h5
      rcases hex with h2 | ⟨h2, h3⟩
      all_goals
        go_wp2_with fail
        go_loopg [12, 13, 14, 15, 16] n1 (fun g s12 s13 s14 s15 s16 wq => ∃ (i : Nat), i ≤ n1 ∧ g = n1 - i ∧ s12 = .int .i64 i ∧ i ≤ 20 ∧ Own [] w5 wq)
        case atStart => exact ⟨0, by omega, by omega, rfl, by omega, Own.refl _ _⟩
        case round =>
          obtain ⟨i, hi, rfl, rfl, hi20, hO⟩ := hrel
          by_cases hlt : i < n1 ∧ i < 20
          · obtain ⟨b1, o1, rfl, hb1, hc1⟩ := h1.out (by omega)
            have hsc := fun W (ho : Own [] w5 W) => ((World.cell?_of_block (w := w) ((hB.out.trans (ho.below hB.out.size (by simp))).block b1 hb1)).trans (hc1 i hlt.1) : W.cell? ⟨b1, o1 + i, none⟩ = some (.string (ss i)))
            have hG := fun W (ho : Own [] w5 W) => get_any b m l (ss i) W (hH.out.nil' ho).store
            have hG2 := fun W (ho : Own [] w5 W) => sget_any xb v r (ss i) W (hH.out.nil' ho).doc hH.out.len
            rw [like_get hH.out.good.1 hH.out.store.nodup hH.out.like] at hG2
            have hF := fun W (ho : Own [] w5 W) => mfind_any b m l (ss i) W (hH.out.nil' ho).store hH.out.good (hT.out.below (hB.out.trans (ho.below hB.out.size (by simp))))
            have hF2 := fun W (ho : Own [] w5 W) => sfilt_any xb v r (ss i) W (hH.out.nil' ho).doc hH.out.len
            have hEq := fun A (hA : Those (mMatch (ss i)) l A) => like_those hH.out.good.1 hH.out.like hA
            have hRl : (r.filter fun x => mMatch (ss i) x.top).length ≤ 1000 := by have := List.length_filter_le (fun x : Ms => mMatch (ss i) x.top) r; have := hH.out.len; omega
            generalize (r.filter fun x => mMatch (ss i) x.top) = R at hF2 hEq hRl
            generalize rGet l (ss i) = g at hG hG2
            obtain ⟨⟨y1, y2, y3, y4⟩, is⟩ := g
            simp only [Ms.val] at hG hG2
            have d0 := hsc wr hO
            have k1 := hlt.1
            have k2 : (i : Int) < 20 := by omega
            replace hsc := Lib.hid hsc
            replace hG := Lib.hid hG
            replace hG2 := Lib.hid hG2
            replace hF := Lib.hid hF
            replace hF2 := Lib.hid hF2
            replace hEq := Lib.hid hEq
            replace hO := Lib.hid hO
            clear hc1 hlt
            go_wp2_with (first
              | (go_at_call 10; refine (hG.out _ hO.out).mono ?_; rintro e w6 ⟨rfl, hO6⟩; replace hO6 := hO.out.trans hO6; have d6 := hsc.out _ (hO6.alloc (.cells #[.string y1, .string y2, .int .i64 y3, .bool y4] 26)); have hrow6 : (w6.alloc (.cells #[.string y1, .string y2, .int .i64 y3, .bool y4] 26)).heap[w6.heap.size]? = some (.cells #[.string y1, .string y2, .int .i64 y3, .bool y4] 26 (0, 0)) := heap_alloc_new _ _; replace hrow6 := Lib.hid hrow6; replace hO6 := Lib.hid (hO6.alloc (.cells #[.string y1, .string y2, .int .i64 y3, .bool y4] 26)))
              | (go_at_call 14; refine (hG2.out _ hO6.out).mono ?_; rintro e w7 ⟨rfl, hO7⟩; have hrow67 := (hO7.alloc (.cells #[.string y1, .string y2, .int .i64 y3, .bool y4] 26)).heap hrow6.out (by simp); have hrow7 : (w7.alloc (.cells #[.string y1, .string y2, .int .i64 y3, .bool y4] 26)).heap[w7.heap.size]? = some (.cells #[.string y1, .string y2, .int .i64 y3, .bool y4] 26 (0, 0)) := heap_alloc_new _ _; replace hO7 := (hO6.out.trans hO7).alloc (.cells #[.string y1, .string y2, .int .i64 y3, .bool y4] 26); replace hrow67 := Lib.hid hrow67; replace hrow7 := Lib.hid hrow7; replace hO7 := Lib.hid hO7))
            have hS : ∀ W, Own [] (w7.alloc (.cells #[.string y1, .string y2, .int .i64 y3, .bool y4] 26)) W → W.cell? ⟨b1, o1 + i, none⟩ = some (.string (ss i)) ∧ (W.cell? ⟨w6.heap.size, 0, none⟩ = some (.string y1) ∧ W.cell? ⟨w6.heap.size, 1, none⟩ = some (.string y2) ∧ W.cell? ⟨w6.heap.size, 2, none⟩ = some (.int .i64 y3) ∧ W.cell? ⟨w6.heap.size, 3, none⟩ = some (.bool y4)) ∧
                (W.cell? ⟨w7.heap.size, 0, none⟩ = some (.string y1) ∧ W.cell? ⟨w7.heap.size, 1, none⟩ = some (.string y2) ∧ W.cell? ⟨w7.heap.size, 2, none⟩ = some (.int .i64 y3) ∧ W.cell? ⟨w7.heap.size, 3, none⟩ = some (.bool y4)) := fun W ho =>
              ⟨hsc.out W (hO7.out.trans ho), ⟨cell_of_row W _ 0 _ _ _ (ho.heap hrow67.out (by simp)), cell_of_row W _ 1 _ _ _ (ho.heap hrow67.out (by simp)), cell_of_row W _ 2 _ _ _ (ho.heap hrow67.out (by simp)), cell_of_row W _ 3 _ _ _ (ho.heap hrow67.out (by simp))⟩,
                cell_of_row W _ 0 _ _ _ (ho.heap hrow7.out (by simp)), cell_of_row W _ 1 _ _ _ (ho.heap hrow7.out (by simp)), cell_of_row W _ 2 _ _ _ (ho.heap hrow7.out (by simp)), cell_of_row W _ 3 _ _ _ (ho.heap hrow7.out (by simp))⟩
            have hdr : Own [] (w7.alloc (.cells #[.string y1, .string y2, .int .i64 y3, .bool y4] 26)) (w7.alloc (.cells #[.string y1, .string y2, .int .i64 y3, .bool y4] 26)).drew := (Own.refl _ _).drew
            have hS0 := hS _ hdr
            replace hdr := Lib.hid hdr
            replace hS := Lib.hid hS
            go_region_held3 (fun W => W.cell? ⟨b1, o1 + i, none⟩ = some (.string (ss i)) ∧ (W.cell? ⟨w6.heap.size, 0, none⟩ = some (.string y1) ∧ W.cell? ⟨w6.heap.size, 1, none⟩ = some (.string y2) ∧ W.cell? ⟨w6.heap.size, 2, none⟩ = some (.int .i64 y3) ∧ W.cell? ⟨w6.heap.size, 3, none⟩ = some (.bool y4)) ∧
                (W.cell? ⟨w7.heap.size, 0, none⟩ = some (.string y1) ∧ W.cell? ⟨w7.heap.size, 1, none⟩ = some (.string y2) ∧ W.cell? ⟨w7.heap.size, 2, none⟩ = some (.int .i64 y3) ∧ W.cell? ⟨w7.heap.size, 3, none⟩ = some (.bool y4)))
              (first | exact hS0 | exact kA | exact kB | exact kC | go_keep)
              ((first
                | (go_at_call 16; refine (hF.out _ (hO7.out.trans hdr.out)).mono ?_; rintro e wa ⟨vf, A, rfl, hTh, hSf, hOa⟩; have hAR := hEq.out A hTh; replace hOa := hdr.out.trans hOa; have kA := hS.out _ hOa; have hRf := hSf.reads msCells_len; rw [hAR] at hRf; replace hRf := Lib.hid hRf; replace hOa := Lib.hid hOa; clear hTh hSf hAR)
                | (go_at_call 17; refine (hF2.out _ (hO7.out.trans hOa.out)).mono ?_; rintro e wb ⟨v2, rfl, hSd, hOb⟩; have hSm := msame_any R vf v2 wb hRl (hRf.out.nil' hOb) (hSd.reads msCells_len); replace hOb := hOa.out.trans hOb; have kB := hS.out _ hOb; replace hSm := Lib.hid hSm; replace hOb := Lib.hid hOb; clear hSd)
                | (go_at_call 15; refine hSm.out.mono ?_; rintro e wc ⟨rfl, hOc⟩; replace hOc := hOb.out.trans hOc; have kC := hS.out _ hOc; replace hOc := Lib.hid hOc)))
            all_goals
              go_wp2_with fail
              go_roundg (n1 - (i + 1))
              case measure => omega
              case rel => exact ⟨i + 1, by omega, by omega, by go_num, by omega, hO7.out.trans hOc.out⟩
          · have hex2 : (¬ i < n1) ∨ (i < n1 ∧ ¬ ((i : Int) < 20)) := by
              by_cases h1 : i < n1
              · exact .inr ⟨h1, fun h2 => hlt ⟨h1, by omega⟩⟩
              · exact .inl h1
            have hHr := hH.out.nil' hO
            have hBr := hB.out.trans (hO.below hB.out.size (by simp))
            have hAll := fun W (ho : Own [] wr W) => mall_any b m l W (hHr.nil' ho).store hH.out.good (hT.out.below (hBr.trans (ho.below hBr.size (by simp))))
            have hAw := fun W (ho : Own [] wr W) => awake_any W (hT.out.below (hBr.trans (ho.below hBr.size (by simp))))
            have hEq := fun A (hA : Those lvName l A) => like_all hH.out.good.1 hH.out.like hA
            have hRl : r.length ≤ 1000 := by have := hH.out.len; omega
            have hRd := fun W (ho : Own [] wr W) => (hHr.nil' ho).doc.own.reads msCells_len
            have hS : ∀ W, Own [] wr W → W.cell? ⟨xb, 0, none⟩ = some v := fun W ho => cell_of_row W xb 0 _ _ _ (hHr.nil' ho).doc.row
            obtain ⟨av, cv, rfl⟩ := hHr.doc.own.sl
            have hdr : Own [] wr wr.drew := (Own.refl _ _).drew
            have hS0 := hS _ hdr
            have hS00 := hS _ (Own.refl _ _)
            replace hdr := Lib.hid hdr
            replace hS := Lib.hid hS
            replace hAll := Lib.hid hAll
            replace hAw := Lib.hid hAw
            replace hEq := Lib.hid hEq
            replace hRd := Lib.hid hRd
            replace hBr := Lib.hid hBr
            clear hHr hO hlt
            rcases hex2 with h4 | ⟨h4, h5⟩
            all_goals
              go_wp2_with fail
              go_region_held3 (fun W => W.cell? ⟨xb, 0, none⟩ = some (.slice av r.length cv))
                (first | exact hS0 | exact kA | exact kB | exact kC | go_keep)
                ((first
                  | (go_at_call 18; refine (hAll.out _ hdr.out).mono ?_; rintro e wa ⟨vf, A, rfl, hTh, hSf, hOa⟩; have hAR := hEq.out A hTh; replace hOa := hdr.out.trans hOa; have kA := hS.out _ hOa; have hRf := hSf.reads msCells_len; rw [hAR] at hRf; have hSm := msame_any r vf (.slice av r.length cv) wa hRl hRf (hRd.out _ hOa); replace hSm := Lib.hid hSm; replace hOa := Lib.hid hOa; clear hTh hSf hAR hRf)
                  | (go_at_call 15; refine hSm.out.mono ?_; rintro e wb ⟨rfl, hOb⟩; replace hOb := hOa.out.trans hOb; have kB := hS.out _ hOb; have hAw2 := hAw.out _ hOb; replace hAw2 := Lib.hid hAw2; replace hOb := Lib.hid hOb)
                  | (go_at_call 11; refine hAw2.out.mono ?_; rintro e wc ⟨rfl, hOc⟩; replace hOc := hOb.out.trans hOc; have kC := hS.out _ hOc; replace hOc := Lib.hid hOc)))
              all_goals
                go_wp2_with fail
                go_ret
                exact ⟨rfl, hBr.out.trans (hOc.out.below hBr.out.size (by simp))⟩
end Go.Proofs.YthepdibnnnednaaDoor
