/- TrieGone: behind dropping all that was added nobody wants anything. -/
import Derived.Test.YtamclcdcpaiojaaDoorTrieActs
namespace Go.Proofs.YtamclcdcpaiojaaDoor
open Go.RowKit Go.Lib Go.Shelf Go.Sort

theorem hits_none {A : Wishes} (h0 : ∀ j, A j = []) {s : ByteArray} {hs : List (Int × Int)} (h : tHits A s hs) : hs = [] := by
  unfold tHits at h
  split at h
  · exact h
  · cases hs with
    | nil => rfl
    | cons x r =>
      obtain ⟨n, _, ⟨p, hp, _⟩, _⟩ := (h.2 x.1 x.2).1 (List.mem_cons_self ..)
      rw [h0] at hp; cases hp
theorem len_none {A : Wishes} (h0 : ∀ j, A j = []) : tLen A = 0 := by unfold tLen; simp [h0]
theorem clear_none {A : Wishes} (h0 : ∀ j, A j = []) (k : Int) : (tClear A k).1 = 0 := by unfold tClear; split; rfl; simp [h0]
theorem drop_has {A : Wishes} {k : Nat} (hk : k < 8) {s : ByteArray} (h : (aGet (A k) s).isSome = true) : tDrop A k s = (true, upd A k (aDel (A k) s)) := by
  unfold tDrop
  rw [if_neg (by omega), Int.toNat_natCast, if_pos h]
theorem drop_gone {A : Wishes} {k : Nat} (hk : k < 8) (s : ByteArray) : tDrop (upd A k (aDel (A k) s)) k s = (false, upd A k (aDel (A k) s)) := by
  unfold tDrop
  rw [if_neg (by omega), Int.toNat_natCast, upd_get, aGet_delG, if_pos rfl]
  rfl
theorem rises_ne {R : List (ByteArray × Int)} (h : Rises (·.1) R) {i j : Nat} {x y : ByteArray × Int} (hx : R[i]? = some x) (hy : R[j]? = some y) (hij : i < j) : y.1 ≠ x.1 := by
  obtain ⟨hi, rfl⟩ := List.getElem?_eq_some_iff.1 hx
  obtain ⟨hj, rfl⟩ := List.getElem?_eq_some_iff.1 hy
  have this : sless R[i].1 R[j].1 = true := List.pairwise_iff_getElem.1 h i j hi hj hij
  intro e
  rw [e, sless_irrefl] at this
  cases this

set_option maxRecDepth 100000 in
set_option maxHeartbeats 4000000 in
theorem gone_walk (a0 : Option Addr) (n0 c0 : Nat) (ms : Nat → AAct) (nm : ByteArray) (w : World) (h0 : RowOf AAct.cells 4 w a0 n0 ms) (_z : nm.size ≤ 140737488351232) (hT : Tabs w) :
    Calls Tryd.prog 5 #[.slice a0 n0 c0, .string nm] w fun e w' => e = .returned (.bool true) ∧ Below w.heap.size w w' := by
  have hl0 : n0 ≤ 9223372036854775807 := by have := h0.1; simp only [maxLen] at this; omega
  replace h0 := Lib.hid h0
  replace hT := Lib.hid hT
  go_enter Tryd.func5, Tryd.ntmps5
  go_wp2_with fail
  refine (tnew_any _).mono ?_
  rintro e w1 ⟨t, F, rfl, hF, hn, hO⟩
  have hTB : TrieB w.heap.size w1 t F (fun _ => []) := ⟨hF, hn⟩
  have hB1 : Below w.heap.size w w1 := hO.below (Nat.le_refl _) (by simp)
  replace hTB := Lib.hid hTB
  replace hB1 := Lib.hid hB1
  clear hF hn hO
  go_wp2_with fail
  go_loopg [6] n0 (fun g s6 wr => ∃ (k : Nat) (F' : List Nat), k ≤ n0 ∧ g = n0 - k ∧ s6 = .int .i64 k ∧ k ≤ 60 ∧ Aside (TrieB w.heap.size wr t F' (addAll ms k) ∧ Below w.heap.size w wr))
  case atStart => exact ⟨0, F, by omega, by omega, rfl, by omega, hTB.out, hB1.out⟩
  case round =>
    obtain ⟨k, F', hk, rfl, rfl, hk6, hH, hB⟩ := hrel
    by_cases hlt : k < n0 ∧ k < 60
    · obtain ⟨b1, o1, rfl, hb1, hx⟩ := (h0.out.below hB).2 (by omega)
      have hxk := hx k hlt.1
      have hHd : TrieB w.heap.size wr.drew t F' (addAll ms k) := hH.nil' (Own.refl [] _).drew
      have hBd : Below w.heap.size w wr.drew := hB.trans (((Own.refl [] wr).drew).below hB.size (by simp))
      have hA := tadd_any t F' (addAll ms k) (ms k).who (ms k).f (ms k).q wr.drew hHd.1 (hT.out.below hBd)
      have hnx : (tAdd (addAll ms k) (ms k).who (ms k).f (ms k).q).2 = addAll ms (k + 1) := rfl
      rw [hnx] at hA
      generalize (tAdd (addAll ms k) (ms k).who (ms k).f (ms k).q).1 = res at hA
      obtain ⟨A', hA'⟩ : ∃ A', addAll ms (k + 1) = A' := ⟨_, rfl⟩
      rw [hA'] at hA
      replace hA' := Lib.hid hA'
      generalize ms k = x at hxk hA
      obtain ⟨x1, x2, x3, x4⟩ := x
      have d1 : wr.cell? ⟨b1, o1 + k * 4 + 1, none⟩ = some (.int .i64 x2) := hxk 1 _ rfl
      have d2 : wr.cell? ⟨b1, o1 + k * 4 + 2, none⟩ = some (.string x3) := hxk 2 _ rfl
      have d3 : wr.cell? ⟨b1, o1 + k * 4 + 3, none⟩ = some (.int .i64 x4) := hxk 3 _ rfl
      have hfin := fun W' h => hHd.left (A' := A') (w' := W') hBd.size h
      replace hA := Lib.hid hA
      replace hfin := Lib.hid hfin
      replace hBd := Lib.hid hBd
      have k1 := hlt.1
      have k2 : (k : Int) < 60 := by omega
      have k0 : (0 : Int) ≤ k := by omega
      clear hx hxk hH hHd hnx
      go_wp2_with fail
      go_region_with ((go_at_call 8; refine hA.out.mono ?_; rintro e w5 ⟨rfl, hL⟩; have hE := hfin.out _ hL; replace hE := Lib.hid hE; clear hL))
      all_goals
        go_wp2_with fail
        go_roundg (n0 - (k + 1))
        case measure => omega
        case rel =>
          obtain ⟨⟨F2, hF2⟩, hB2⟩ := hE.out
          exact ⟨k + 1, F2, by omega, by omega, by go_num, by omega, by rw [hA'.out]; exact hF2, hBd.out.trans hB2⟩
    · have hex : (¬ k < n0) ∨ (k < n0 ∧ ¬ ((k : Int) < 60)) := by
        by_cases h1 : k < n0
        · exact .inr ⟨h1, fun h2 => hlt ⟨h1, by omega⟩⟩
        · exact .inl h1
      generalize addAll ms k = A0 at hH
      obtain ⟨w5, h5⟩ : ∃ W : World, W = wr := ⟨_, rfl⟩
      subst h5
      replace hH := Lib.hid hH
      replace hB := Lib.hid hB
      clear hlt
      rcases hex with h2 | ⟨h2, h3⟩
      all_goals
        go_wp2_with fail
        go_loopg [7, 8, 9, 10] 9 (fun g s7 s8 s9 s10 wr => ∃ (i : Nat) (m : Int) (A : Wishes) (F' : List Nat), i ≤ 8 ∧ g = 9 - i ∧ s8 = .int .i64 i ∧ s7 = .int .i64 m ∧ 0 ≤ m ∧ m ≤ 100 * i ∧ Aside (TrieB w.heap.size wr t F' A ∧ (∀ j, j < i → A j = []) ∧ Below w.heap.size w wr))
        case atStart => exact ⟨0, 0, A0, F', by omega, rfl, rfl, rfl, by omega, by omega, hH.out, fun j hj => by omega, hB.out⟩
        case round =>
          obtain ⟨i, m, A, F2, hi, rfl, rfl, rfl, hm0, hm1, hTr, hgo, hBr⟩ := hrel
          by_cases hi8 : i < 8
          · have cO := tof_any t F2 A i wr hTr.1
            have i1 : (i : Int) < 8 := by omega
            replace cO := Lib.hid cO
            have hwi : IntKind.i64.wrap ((i : Int) + 1) = (i : Int) + 1 := IntWalk.i64_in _ (by omega)
            replace hBr := Lib.hid hBr
            have hTr0 := Lib.hid hTr
            replace hgo := Lib.hid hgo
            clear hTr
            go_wp2_with fail
            refine cO.out.mono ?_
            rintro e w6 ⟨v, R, rfl, hR, hS, hO6⟩
            have hRl := tOf_len hTr0.out.1.cap hR
            unfold tOf at hR
            rw [if_neg (by omega), Int.toNat_natCast] at hR
            obtain ⟨hRp, hRr⟩ := hR
            have hall : ∀ (j : Nat) (x : ByteArray × Int), R[j]? = some x → (aGet (A i) x.1).isSome = true ∧ x.1.size ≤ 1000 := fun j x hx => by
              have hm := hRp.subset (List.mem_of_getElem? hx)
              have hsz := lvSized_pos (lvFilter_sized (hTr0.out.1.filt i x hm).1)
              exact ⟨by rw [aGet_of_mem (hTr0.out.1.keys i) hm]; rfl, by omega⟩
            have hT6 : TrieB w.heap.size w6 t F2 A := hTr0.out.nil' hO6
            have hB6 : Below w.heap.size w w6 := hBr.out.trans (hO6.below hBr.out.size (by simp))
            have hbl := fun g hg => (hS.block (g := g) hg).1
            have hFl := hTr0.out.1.lt
            have hRd := hS.reads fEnc_len
            obtain ⟨av, cv, rfl⟩ := hS.sl
            obtain ⟨n, hn⟩ : ∃ n, R.length = n := ⟨_, rfl⟩
            rw [hn] at hRl hRd hbl ⊢
            replace hn := Lib.hid hn
            replace hall := Lib.hid hall
            replace hRr := Lib.hid hRr
            replace hT6 := Lib.hid hT6
            replace hB6 := Lib.hid hB6
            replace hbl := Lib.hid hbl
            replace hFl := Lib.hid hFl
            replace hRd := Lib.hid hRd
            clear hRp hS hO6 cO hBr
            go_wp2_with fail
            go_loopg [7, 10] (n + 1) (fun g s7 s10 wr => ∃ (j : Nat) (m2 : Int) (A2 : Wishes), j ≤ n ∧ g = n + 1 - j ∧ s10 = .int .i64 j ∧ s7 = .int .i64 m2 ∧ 0 ≤ m2 ∧ m2 ≤ 100 * i + j ∧ Aside (TrieF wr t F2 A2 ∧ Own F2 w6 wr ∧ (∀ j, j ≠ i → A2 j = A j) ∧ (∀ q, j ≤ q → ∀ x, R[q]? = some x → (aGet (A2 i) x.1).isSome = true)))
            case atStart => exact ⟨0, m, A, by omega, rfl, rfl, rfl, hm0, by omega, hT6.out.1, Own.refl _ _, fun _ _ => rfl, fun q _ x hx => (hall.out q x hx).1⟩
            case round =>
              obtain ⟨j, m2, A2, hj, rfl, rfl, rfl, hm20, hm21, hT, hOr, hoth, hst⟩ := hrel
              have hwj : IntKind.i64.wrap ((j : Int) + 1) = (j : Int) + 1 := IntWalk.i64_in _ (by omega)
              have hwm : IntKind.i64.wrap (m2 + 1) = m2 + 1 := IntWalk.i64_in _ (by omega)
              by_cases hjn : j < n
              · have j1 : (j : Int) < n := by omega
                have j0 : (0 : Int) ≤ j := by omega
                obtain ⟨x, hx⟩ : ∃ x, R[j]? = some x := ⟨_, List.getElem?_eq_getElem (by have := hn.out; omega)⟩
                have hpar : (j : Int).tmod 2 = ((j % 2 : Nat) : Int) := (Int.ofNat_tmod j 2).symm
                have hpar2 : (j : Int) % 2 = ((j % 2 : Nat) : Int) := by omega
                obtain ⟨x1, x2⟩ := x
                have hxs := (hall.out j _ hx).2
                have hhas := hst j (Nat.le_refl _) _ hx
                have hRw := hRd.out.own hOr (fun b hb hy => by have := hbl.out b hb; have := hFl.out b hy; omega)
                rw [← hn.out] at hRw
                obtain ⟨b0, o0, rfl, hca⟩ := hRw.at_ fEnc_len (by have := hn.out; omega)
                have d0 : wr.cell? ⟨b0, o0 + j * 2, none⟩ = some (.string x1) := by simpa using hca j _ 0 _ hx rfl
                by_cases hev : j % 2 = 0
                · rw [hev] at hpar hpar2
                  have cD := tdrop2_any t F2 A2 i x1 wr hT hxs
                  have cD2 := fun W (h : TrieF W t F2 (upd A2 i (aDel (A2 i) x1))) => tdrop2_any t F2 _ i x1 W h hxs
                  rw [drop_has hi8 hhas] at cD
                  rw [drop_gone hi8] at cD2
                  have hst2 : ∀ q, j + 1 ≤ q → ∀ y, R[q]? = some y → (aGet (upd A2 i (aDel (A2 i) x1) i) y.1).isSome = true := fun q hq y hy => by
                    rw [upd_get, aGet_delG, if_neg (rises_ne hRr.out hx hy (by omega))]
                    exact hst q (by omega) y hy
                  have hoth2 : ∀ q, q ≠ i → upd A2 i (aDel (A2 i) x1) q = A q := fun q hq => by
                    unfold upd
                    rw [if_neg hq]; exact hoth q hq
                  have hb0l := block_lt_of_cell d0
                  have d0' := fun W (ho : Own F2 wr W) => (ho.cell (p := ⟨b0, o0 + j * 2, none⟩) hb0l (fun hy => by have := hbl.out b0 rfl; have := hFl.out b0 hy; omega)).trans d0
                  replace cD := Lib.hid cD
                  replace cD2 := Lib.hid cD2
                  replace hst2 := Lib.hid hst2
                  replace hoth2 := Lib.hid hoth2
                  replace hOr := Lib.hid hOr
                  replace d0' := Lib.hid d0'
                  clear hca hRw hT hoth hst hhas hev
                  go_wp2_with (first
                    | (go_at_call 16; (with_reducible refine cD.out.mono ?_); rintro e w8 ⟨rfl, hT8, hO8⟩; have d8 := d0'.out w8 hO8; replace hT8 := Lib.hid hT8; replace hO8 := Lib.hid (hOr.out.trans hO8))
                    | (go_at_call 16; (with_reducible refine (cD2.out w8 hT8.out).mono ?_); rintro e w9 ⟨rfl, hT9, hO9⟩; replace hT9 := Lib.hid hT9; replace hO9 := Lib.hid (hO8.out.trans hO9)))
                  go_roundg (n + 1 - (j + 1))
                  case measure => omega
                  case rel => exact ⟨j + 1, m2 + 1, _, by omega, rfl, by simp, rfl, by omega, by omega, hT9.out, hO9.out, hoth2.out, hst2.out⟩
                · have hod : j % 2 = 1 := by omega
                  rw [hod] at hpar hpar2
                  replace hOr := Lib.hid hOr
                  replace hoth := Lib.hid hoth
                  replace hst := Lib.hid hst
                  replace hT := Lib.hid hT
                  clear hca hRw hhas hev hod
                  go_wp2_with fail
                  go_roundg (n + 1 - (j + 1))
                  case measure => omega
                  case rel => exact ⟨j + 1, m2, A2, by omega, rfl, by simp, rfl, by omega, by omega, hT.out, hOr.out, hoth.out, fun q hq y hy => hst.out q (by omega) y hy⟩
              · have j1 : ¬ (j : Int) < n := by omega
                have cC := tclear_any t F2 A2 i wr hT
                have hcl : tClear A2 i = ((A2 i).length, upd A2 i []) := by
                  unfold tClear
                  rw [if_neg (by omega), Int.toNat_natCast]
                rw [hcl] at cC
                simp only at cC
                have hl16 := hT.cap i
                obtain ⟨ll, hll⟩ : ∃ ll, (A2 i).length = ll := ⟨_, rfl⟩
                rw [hll] at cC hl16
                have hwm2 : IntKind.i64.wrap (m2 + ll) = m2 + ll := IntWalk.i64_in _ (by omega)
                have hB5 : Below w.heap.size w wr := hB6.out.trans (hOr.below hB6.out.size hT6.out.2)
                have hgo2 : ∀ q, q < i + 1 → upd A2 i [] q = [] := fun q hq => by
                  unfold upd
                  split
                  · rfl
                  · rename_i hne; rw [hoth q hne]; exact hgo.out q (by omega)
                replace cC := Lib.hid cC
                replace hB5 := Lib.hid hB5
                replace hgo2 := Lib.hid hgo2
                clear hT hOr hoth hst hcl hll
                go_wp2_with (go_at_call 17; refine cC.out.mono ?_; rintro e w8 ⟨rfl, hT8, hO8⟩; replace hT8 := Lib.hid hT8; replace hO8 := Lib.hid hO8)
                go_roundg (9 - (i + 1))
                case measure => omega
                case rel => exact ⟨i + 1, m2 + ll, _, F2, by omega, rfl, by simp, rfl, by omega, by omega, ⟨hT8.out, hT6.out.2⟩, hgo2.out, hB5.out.trans (hO8.out.below hB5.out.size hT6.out.2)⟩
          · obtain rfl : i = 8 := by omega
            have hnone : ∀ j, A j = [] := fun j => by
              rcases Nat.lt_or_ge j 8 with h | h
              · exact hgo j h
              · exact hTr.1.out j h
            have cL := tlen2_any t F2 A wr hTr.1
            rw [len_none hnone] at cL
            have cH := thits_any t F2 A nm wr hTr.1 (hT.out.below hBr)
            have cC := fun W (ho : Own [] wr W) => tclear_any t F2 A 0 W (hTr.1.nil' ho)
            rw [clear_none hnone] at cC
            have hFo := hTr.2
            have hAw := fun W (hb : Below w.heap.size w W) => tawake_any W (hT.out.below hb)
            replace cL := Lib.hid cL
            replace cH := Lib.hid cH
            replace cC := Lib.hid cC
            replace hAw := Lib.hid hAw
            replace hBr := Lib.hid hBr
            replace hFo := Lib.hid hFo
            have hn2 := Lib.hid hnone
            clear hTr hgo hnone
            go_wp2_with (first
              | (go_at_call 13; refine cL.out.mono ?_; rintro e w' ⟨rfl, rfl⟩)
              | (go_at_call 12; refine cH.out.mono ?_; rintro e w8 ⟨vh, hs, rfl, hh, _, hSh, hO8⟩; go_loud (have hh2 := hits_none hn2.out hh); subst hh2; obtain ⟨ah, ch, rfl⟩ := hSh.sl; simp only [List.length_nil]; have cC8 := cC.out w8 hO8; replace cC8 := Lib.hid cC8; replace hO8 := Lib.hid hO8; clear hh hSh)
              | (go_at_call 17; refine cC8.out.mono ?_; rintro e w9 ⟨rfl, _, hO9⟩; have hB8 := hBr.out.trans (hO8.out.below hBr.out.size (by simp)); have hB9 := hB8.trans (hO9.below hB8.size hFo.out); have hA9 := hAw.out w9 hB9; replace hA9 := Lib.hid hA9; replace hB9 := Lib.hid hB9; clear hO9 hB8)
              | (go_at_call 14; refine hA9.out.mono ?_; rintro e w10 ⟨rfl, hO10⟩; replace hO10 := Lib.hid (hB9.out.trans (hO10.below hB9.out.size (by simp)))))
            go_ret
            exact ⟨rfl, hO10.out⟩
end Go.Proofs.YtamclcdcpaiojaaDoor
