/- HostPlays: whatever hosts tell. -/
import Derived.Test.YtnodacfhkgkliaaHostOrd
import Derived.Test.YtnodacfhkgkliaaHostAwake
import Derived.Test.YtnodacfhkgkliaaArgs
import Derived.Deep.QuietTactic
import Derived.Deep.RegionHeld3
import Derived.Deep.DrawnRows
import Derived.BigQuiet
import Derived.StillTailTactics
namespace Go.Proofs.Ytnodacfhkgkliaa
open Go.RowKit Go.Sort Go.Lib
attribute [local go_sem ↓] Go.wp_at_zero Go.wp_at_succ

theorem ownsRow_own {S : List Nat} {T : TypeId} {k base n : Nat} {w w' : World} {v : Value} {xs : List Value} (h : w.ownsRow base T k v n xs) (ho : Own S w w') (hS : ∀ b, v.ownBlock = some b → b ∉ S) : w'.ownsRow base T k v n xs := by
  obtain ⟨h1, h2⟩ := h
  refine ⟨h1, ?_⟩
  rcases h2 with h2 | ⟨g, cap, cur, rfl, hb, hg, h3⟩
  · exact .inl h2
  · exact .inr ⟨g, cap, cur, rfl, hb, ho.heap hg (hS g rfl), h3⟩
theorem RefH.own' {S : List Nat} {w w' : World} {xb : Nat} {v : Value} {r : HSt} (h : RefH w xb v r) (ho : Own S w w') (hx : xb ∉ S) (hS : ∀ b, v.ownBlock = some b → b ∉ S) : RefH w' xb v r :=
  ⟨ho.heap h.row hx, ownsRow_own h.own ho hS, h.ne⟩
theorem RefH.form {w : World} {xb : Nat} {v : Value} {r : HSt} (h : RefH w xb v r) : ∃ a cap, v = .slice a r.length cap ∧ (0 < r.length → ∃ g, a = some ⟨g, 0, none⟩ ∧ Row 39 hEnc 2 w g cap r) := by
  by_cases hv : v = .slice none 0 0
  · rcases h.own.2 with ⟨h1, h2⟩ | ⟨g, cap, cur, he, _⟩
    · exact ⟨none, 0, by rw [hv, h2], fun h0 => by omega⟩
    · rw [hv] at he; cases he
  · obtain ⟨g, cap, rfl, hR⟩ := owned_row h.own rfl hv
    exact ⟨_, cap, rfl, fun _ => ⟨g, rfl, hR⟩⟩
theorem hTake_len {st : HSt} (h : st.length ≤ 4) (n t : ByteArray) : (hTake st n t).2.length ≤ 4 := by
  have hp : ∀ on, (hPut st n on).2.length ≤ 4 := by
    intro on
    unfold hPut
    split
    · simpa using h
    · split
      · exact h
      · simp; omega
  unfold hTake
  split
  · exact h
  · split
    · exact hp true
    · split
      · exact hp false
      · exact h

set_option maxRecDepth 100000 in
set_option maxHeartbeats 4000000 in
theorem plays_walk (a0 : Option Addr) (n0 c0 : Nat) (z0 : Nat → ByteArray) (a1 : Option Addr) (n1 c1 : Nat) (z1 : Nat → ByteArray) (w : World) (h0 : StrRow w a0 n0 z0) (h1 : StrRow w a1 n1 z1) :
    Calls Try.prog 5 #[.slice a0 n0 c0, .slice a1 n1 c1] w fun e w' => e = .returned (.bool true) ∧ Below w.heap.size w w' := by
  have hl0 := h0.1
  have hl1 := h1.1
  replace h0 := Lib.hid h0
  replace h1 := Lib.hid h1
  go_enter Try.func5, Try.ntmps5
  go_wp2_with fail
  refine (new_any _).mono ?_
  rintro e w1 ⟨b, m, rfl, hH, hb, hm, hO⟩
  have hB1 : Below w.heap.size w (w1.alloc (.cells #[.slice none 0 0] 36)) := (hO.alloc _).below (Nat.le_refl _) (by simp)
  have hH1 := hH.own ((Own.refl [] w1).alloc (.cells #[.slice none 0 0] 36)) (by simp) (by simp)
  have hR1 : RefH (w1.alloc (.cells #[.slice none 0 0] 36)) w1.heap.size (.slice none 0 0) [] :=
    ⟨heap_alloc_new _ _, ⟨rfl, .inl ⟨rfl, rfl⟩⟩, by simp [Value.ownBlock]⟩
  obtain ⟨hbl1, hbl2⟩ := hH.lt
  have hsz := hO.size
  replace hH1 := Lib.hid hH1
  replace hB1 := Lib.hid hB1
  replace hR1 := Lib.hid hR1
  clear hH hO
  go_wp2_with fail
  go_loopg [7, 8, 9] n0 (fun g i _ _ wr => ∃ (k : Nat) (st r : HSt) (v : Value), k ≤ n0 ∧ g = n0 - k ∧ i = .int .i64 k ∧ k ≤ 60 ∧
    Aside (Host wr b m st ∧ RefH wr w1.heap.size v r ∧ Alike st r ∧ Below w.heap.size w wr ∧ (∀ g, v.ownBlock = some g → g ≠ b ∧ g ≠ m ∧ w.heap.size ≤ g)))
  case atStart => exact ⟨0, [], [], .slice none 0 0, by omega, by omega, rfl, by omega, hH1.out, hR1.out, ⟨List.Perm.refl _, List.Pairwise.nil⟩, hB1.out, fun g hg => by simp [Value.ownBlock] at hg⟩
  case round =>
    obtain ⟨k, st, r, v, hk, rfl, rfl, hk6, hA⟩ := hrel
    obtain ⟨hH, hR, hAl, hB, hv⟩ := hA
    by_cases hlt : k < n0 ∧ k < n1 ∧ k < 60
    · obtain ⟨b0, o0, rfl, hb0, hx0⟩ := (h0.out).2 (by omega)
      obtain ⟨b1, o1, rfl, hb1, hx1⟩ := (h1.out).2 (by omega)
      have s0 : wr.cell? ⟨b0, o0 + k, none⟩ = some (.string (z0 k)) := (hB.cell hb0).trans (hx0 k hlt.1)
      have s1 : wr.cell? ⟨b1, o1 + k, none⟩ = some (.string (z1 k)) := (hB.cell hb1).trans (hx1 k hlt.2.1)
      have k0 := hlt.1
      have k1 := hlt.2.1
      have k2 : (k : Int) < 60 := by omega
      have hst := hH.len
      have hrl : r.length ≤ 4 := by rw [hAl.perm.length_eq]; exact hst
      have hsr := hB.size
      have hxl := lt_of_heap hR.row
      have hHlt := hH.lt
      have T1 := take_any b m st wr.drew (z0 k) (z1 k) hH.drew
      have T2 := fun (w2 : World) (ho : Own [b, m] wr.drew w2) => ref_any w1.heap.size v r w2 (z0 k) (z1 k)
        ⟨ho.heap (b := w1.heap.size) hR.row (by simp; omega), by
          refine ownsRow_own hR.own ((Own.refl [b, m] wr).drew.trans ho) (fun g hg => ?_)
          have := hv g hg
          simp; omega, hR.ne⟩ hrl
      have hstep := take_alike hAl (z0 k) (z1 k)
      have hlen4 := hTake_len hst (z0 k) (z1 k)
      unfold TakePost at T1
      unfold RefPost at T2
      generalize hTake st (z0 k) (z1 k) = q at T1 hstep hlen4
      generalize rTake' r (z0 k) (z1 k) = q' at T2 hstep
      obtain ⟨c, st2⟩ := q
      obtain ⟨c', r2⟩ := q'
      simp only at T1 T2 hstep hlen4
      obtain ⟨rfl, hAl2⟩ := hstep
      generalize z0 k = x0 at *
      generalize z1 k = x1 at *
      have cS : ∀ w2, Own [b, m] wr.drew w2 → w2.cell? ⟨b0, o0 + k, none⟩ = some (.string x0) ∧ w2.cell? ⟨b1, o1 + k, none⟩ = some (.string x1) := fun w2 ho =>
        ⟨(ho.cell (p := ⟨b0, o0 + k, none⟩) (by show b0 < wr.heap.size; omega) (by simp; omega)).trans s0, (ho.cell (p := ⟨b1, o1 + k, none⟩) (by show b1 < wr.heap.size; omega) (by simp; omega)).trans s1⟩
      have cT : ∀ w2 w3, Own [b, m] wr.drew w2 → Own (w1.heap.size :: v.ownBlock.toList) w2 w3 → w3.cell? ⟨b0, o0 + k, none⟩ = some (.string x0) ∧ w3.cell? ⟨b1, o1 + k, none⟩ = some (.string x1) := fun w2 w3 ho ho3 => by
        have hz := ho.size
        have h00 : wr.heap.size ≤ w2.heap.size := by simpa using hz
        refine ⟨(ho3.cell (p := ⟨b0, o0 + k, none⟩) (by show b0 < w2.heap.size; omega) ?_).trans (cS w2 ho).1, (ho3.cell (p := ⟨b1, o1 + k, none⟩) (by show b1 < w2.heap.size; omega) ?_).trans (cS w2 ho).2⟩
        · intro hx
          rcases List.mem_cons.1 hx with h1 | h1
          · simp at h1; omega
          · have := (hv b0 (by simpa using h1)).2.2; omega
        · intro hx
          rcases List.mem_cons.1 hx with h1 | h1
          · simp at h1; omega
          · have := (hv b1 (by simpa using h1)).2.2; omega
      replace cT := Lib.hid cT
      replace T1 := Lib.hid T1
      replace T2 := Lib.hid T2
      replace cS := Lib.hid cS
      replace hAl := Lib.hid hAl
      replace hAl2 := Lib.hid hAl2
      replace hH := Lib.hid hH
      replace hR := Lib.hid hR
      replace hB := Lib.hid hB
      replace hv := Lib.hid hv
      clear hlt hx0 hx1
      go_wp2_with fail
      clear h0 h1 hH1 hB1 hR1 hst hrl hHlt hlen4 hl0 hl1
      go_region_held3 (fun w' => w'.cell? ⟨b0, o0 + k, none⟩ = some (.string x0) ∧ w'.cell? ⟨b1, o1 + k, none⟩ = some (.string x1))
        (first | go_keep | exact cA | exact cB)
        ((first
          | (go_at_call 8; refine T1.out.mono ?_; rintro e w2 ⟨rfl, hH2, hO2⟩; have cA := cS.out _ hO2; replace hH2 := Lib.hid hH2; replace hO2 := Lib.hid hO2)
          | (go_at_call 12; refine (T2.out _ hO2.out).mono ?_; rintro e w3 ⟨rfl, v', hR3, hO3, hv3⟩; have cB := cT.out _ _ hO2.out hO3; replace hR3 := Lib.hid hR3; replace hO3 := Lib.hid hO3; replace hv3 := Lib.hid hv3)))
      clear cS cT cA cB s0 s1
      have hz2 := hO2.out.size
      have hz22 : wr.heap.size ≤ w2.heap.size := by simpa using hz2
      have hz3 := hO3.out.size
      have hH3 := hH2.out.own hO3.out (by
        intro hx
        rcases List.mem_cons.1 hx with h1 | h1
        · omega
        · exact (hv.out b (by simpa using h1)).1 rfl) (by
        intro hx
        rcases List.mem_cons.1 hx with h1 | h1
        · omega
        · exact (hv.out m (by simpa using h1)).2.1 rfl)
      have AL := all_any b m st2 w3 hH3
      unfold AllPost at AL
      have hN : r2.length = st2.length := hAl2.out.perm.length_eq
      obtain ⟨a2, cap2, rfl, hrow2⟩ := hR3.out.form
      rw [hN] at hR3 hrow2
      have hlen2 := hH3.len
      replace AL := Lib.hid AL
      replace hH3 := Lib.hid hH3
      replace hrow2 := Lib.hid hrow2
      replace hN := Lib.hid hN
      go_wp2_with fail
      refine AL.out.mono ?_
      rintro e w4 ⟨g, cap, l, rfl, hp, hs, hRow, hg, hO4⟩
      have hlr := all_alike hAl2.out hp hs
      subst hlr
      have hH4 := hH3.out.own hO4 (by simp) (by simp)
      have hR4 := hR3.out.own' hO4 (by simp) (by simp)
      have d0 : w4.cell? ⟨w1.heap.size, 0, none⟩ = some (.slice a2 st2.length cap2) := cell_of_row w4 _ 0 _ _ _ hR4.row
      have hrow4 : 0 < st2.length → ∃ g2, a2 = some ⟨g2, 0, none⟩ ∧ Row 39 hEnc 2 w4 g2 cap2 l := fun h0 => by
        obtain ⟨g2, h1, h2⟩ := hrow2.out h0
        exact ⟨g2, h1, h2.own hO4 (by simp)⟩
      have hxl4 := lt_of_heap hR4.row
      have LQ := Lib.hid (fun n => Calls.quiet_of_same ((len_any b m st2 (w4.drewN n) (hH4.own (S := []) ((Own.refl _ _).drewN _) (by simp) (by simp))).mono (fun _ _ h => ⟨h.1, h.2.symm⟩)))
      replace hH4 := Lib.hid hH4
      replace hR4 := Lib.hid hR4
      replace hrow4 := Lib.hid hrow4
      replace hRow := Lib.hid hRow
      replace hO4 := Lib.hid hO4
      clear hrow2 AL hp hs hH3 hR3 hH2
      go_wp2_with fail
      go_quiet ((go_at_call 11; exact LQ.out _))
      go_wp2_with fail
      obtain ⟨wa, rfl⟩ : ∃ wa : World, wa = wr := ⟨_, rfl⟩
      obtain ⟨wo, hwo⟩ : ∃ wo : World, wo = w4.drewN nq := ⟨_, rfl⟩
      rw [← hwo]
      have hO5 : Own [] w4 wo := by rw [hwo]; exact (Own.refl _ _).drewN _
      have e0 : wo.cell? ⟨w1.heap.size, 0, none⟩ = some (.slice a2 st2.length cap2) := (hO5.cell (p := ⟨w1.heap.size, 0, none⟩) hxl4 (by simp)).trans d0
      have hxl5 : w1.heap.size < wo.heap.size := Nat.lt_of_lt_of_le hxl4 hO5.size
      replace hO5 := Lib.hid hO5
      clear hwo d0
      go_loopg [9] st2.length (fun g s9 wr => ∃ j : Nat, j ≤ st2.length ∧ g = st2.length - j ∧ s9 = .int .i64 j ∧ Aside (Own [] wo wr))
      case atStart => exact ⟨0, by omega, by omega, rfl, Own.refl _ _⟩
      case round =>
        obtain ⟨j, hj, rfl, rfl, hO6⟩ := hrel
        have hO6' : Own [] wo wr := hO6
        have f0 : wr.cell? ⟨w1.heap.size, 0, none⟩ = some (.slice a2 st2.length cap2) := (hO6'.cell (p := ⟨w1.heap.size, 0, none⟩) hxl5 (by simp)).trans e0
        replace hO6' := Lib.hid hO6'
        by_cases hjl : j < st2.length
        · obtain ⟨g2, rfl, hRow2⟩ := hrow4.out (by omega)
          have hOO := hO5.out.trans hO6'.out
          have hRa := hRow.out.own hOO (by simp)
          have hRb := hRow2.own hOO (by simp)
          have hjr : j < l.length := by rw [hN.out]; exact hjl
          have hget : l[j]? = some l[j] := List.getElem?_eq_getElem hjr
          have p0 := hRa.cell hEnc_len hget (c := 0) rfl
          have p1 := hRa.cell hEnc_len hget (c := 1) rfl
          have p2 := hRb.cell hEnc_len hget (c := 0) rfl
          have p3 := hRb.cell hEnc_len hget (c := 1) rfl
          generalize l[j] = y at p0 p1 p2 p3
          obtain ⟨yn, yo⟩ := y
          simp only [Nat.add_zero] at p0 p1 p2 p3
          have q0 : (0 : Int) ≤ j := by omega
          have q1 : (j : Int) < st2.length := by omega
          clear hRa hRb hOO hget hRow2 e0
          go_wp2_with fail
          go_quiet (fail)
          go_wp2_with fail
          go_roundg (st2.length - (j + 1))
          case measure => omega
          case rel => exact ⟨j + 1, by omega, rfl, by go_num, hO6'.out.drewN _⟩
        · obtain rfl : j = st2.length := by omega
          clear e0
          have hB7 : Below w.heap.size w wr := by
            have h1 : Below w.heap.size w w2 := hB.out.drew.trans (hO2.out.below (by simpa using hsr) (by simp; omega))
            have h2 : Below w.heap.size w w3 := h1.trans (hO3.out.below (Nat.le_trans (by simpa using hsr) hz2) (by
              intro z hz
              rcases List.mem_cons.1 hz with h3 | h3
              · omega
              · exact (hv.out z (by simpa using h3)).2.2))
            exact h2.trans (((hO4.out.trans hO5.out).trans hO6'.out).below (Nat.le_trans (Nat.le_trans (by simpa using hsr) hz2) hz3) (by simp))
          have hH7 := hH4.out.own (hO5.out.trans hO6'.out) (by simp) (by simp)
          have hR7 := hR4.out.own' (hO5.out.trans hO6'.out) (by simp) (by simp)
          have hv7 : ∀ g, (Value.slice a2 st2.length cap2).ownBlock = some g → g ≠ b ∧ g ≠ m ∧ w.heap.size ≤ g := by
            intro g hg
            rcases hv3.out with h1 | ⟨g', h1, h2⟩
            · rw [hN.out] at h1
              exact hv.out g (h1 ▸ hg)
            · rw [hN.out] at h1
              rw [h1] at hg
              simp at hg
              subst hg
              refine ⟨?_, ?_, ?_⟩ <;> omega
          have F := Lib.hid (And.intro hB7 (And.intro hH7 (And.intro hR7 hv7)))
          clear hB7 hH7 hR7 hv7
          go_wp2_with fail
          go_roundg (n0 - (k + 1))
          case measure => omega
          case rel => exact ⟨k + 1, st2, l, _, by omega, rfl, by go_num, by omega, F.out.2.1, F.out.2.2.1, hAl2.out, F.out.1, F.out.2.2.2⟩
    · have hA := Lib.hid (awake_any wr)
      replace hB := Lib.hid hB
      have hsr := hB.out.size
      clear hH hR hAl hv h0 h1 hH1 hB1 hR1
      by_cases q0 : k < n0
      · by_cases q1 : k < n1
        · have q2 : ¬ k < 60 := fun q2 => hlt ⟨q0, q1, q2⟩
          clear hlt
          go_wp2_with fail
          refine hA.out.mono ?_
          rintro e w3 ⟨rfl, hA3⟩
          go_wp2_with fail
          go_ret
          exact ⟨rfl, hB.out.trans (hA3.below hsr (by simp))⟩
        · clear hlt
          go_wp2_with fail
          refine hA.out.mono ?_
          rintro e w3 ⟨rfl, hA3⟩
          go_wp2_with fail
          go_ret
          exact ⟨rfl, hB.out.trans (hA3.below hsr (by simp))⟩
      · clear hlt
        go_wp2_with fail
        refine hA.out.mono ?_
        rintro e w3 ⟨rfl, hA3⟩
        go_wp2_with fail
        go_ret
        exact ⟨rfl, hB.out.trans (hA3.below hsr (by simp))⟩
end Go.Proofs.Ytnodacfhkgkliaa
