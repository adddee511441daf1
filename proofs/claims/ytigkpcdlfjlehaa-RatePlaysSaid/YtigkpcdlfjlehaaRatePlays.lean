/- RatePlays: any gap, any keys, at any times. -/
import Derived.Test.YtigkpcdlfjlehaaRatePlain
import Derived.Test.YtigkpcdlfjlehaaRateKeys
import Derived.Test.YtigkpcdlfjlehaaArgs
import Derived.Deep.RegionHeld3
import Derived.Deep.DrawnRows
import Derived.StillTailTactics
namespace Go.Proofs.Ytigkpcdlfjlehaa
open Go.RowKit Go.Sort Go.Lib
attribute [local go_sem ↓] Go.wp_at_zero Go.wp_at_succ

/-- B without what is not there. -/
theorem Rate.trim {w : World} {rb : Nat} {gap : Int} {B : List Nat} {l : RTab} (h : Rate w rb gap B l) : ∃ B2, Rate w rb gap B2 l ∧ (∀ x ∈ B2, x ∈ B) ∧ ∀ x ∈ B2, x < w.heap.size := by
  obtain ⟨v, ms, h1, h2, h3, h4, h5⟩ := h.at_
  refine ⟨B.filter (fun x => decide (x < w.heap.size)), ⟨h.len, h.nd, h.gp, v, ms, h1, h2, ?_, ?_, ?_⟩, fun x hx => (List.mem_filter.1 hx).1, fun x hx => by simpa using (List.mem_filter.1 hx).2⟩
  · exact List.mem_filter.2 ⟨h3, by simpa using lt_of_heap h1.row⟩
  · intro g hg
    refine List.mem_filter.2 ⟨h4 g hg, ?_⟩
    rcases h1.marks.own.2 with ⟨rfl, _⟩ | ⟨g', cap, cur, rfl, _, hb, _⟩
    · simp [Value.ownBlock] at hg
    · simp [Value.ownBlock] at hg
      subst hg
      simpa using lt_of_heap hb
  · intro x hx
    exact List.mem_filter.2 ⟨h5 x hx, by simpa using lt_of_heap (h1.marks.marks x hx).1⟩

set_option maxHeartbeats 1000000 in
theorem inList_any (v : Value) (l : List ByteArray) (x : ByteArray) (w : World) (h : Reads sEnc w v l) (hl : l.length ≤ 1000) :
    Calls Try.prog 17 #[v, .string x] w fun e w' => e = .returned (.bool (l.any fun y => y == x)) ∧ w = w' := by
  obtain ⟨a, c, rfl⟩ := h.form
  have hany : ∀ k, (∃ y : ByteArray, l[k]? = some y ∧ y.toList = x.toList) → (l.any fun y => y == x) = true := fun k ⟨y, hy, he⟩ => List.any_eq_true.2 ⟨y, List.mem_of_getElem? hy, by simpa using toList_inj he⟩
  have hno : (∀ (k : Nat) (y : ByteArray), l[k]? = some y → (y.toList == x.toList) = false) → (l.any fun y => y == x) = false := fun h => List.any_eq_false.2 (fun y hy => by
    obtain ⟨k, hk, rfl⟩ := List.getElem_of_mem hy
    have := h k l[k] (List.getElem?_eq_getElem hk)
    rw [beq_toListBytes]; simpa using this)
  generalize (l.any fun y => y == x) = r at *
  replace hany := Lib.hid hany
  replace hno := Lib.hid hno
  replace h := Lib.hid h
  go_enter Try.func17, Try.ntmps17
  go_wp2_with fail
  go_loopg [5] (l.length + 1) (fun g s5 wr => ∃ k : Nat, k ≤ l.length ∧ g = l.length + 1 - k ∧ s5 = .int .i64 k ∧ wr = w ∧ Hid (∀ (j : Nat) (y : ByteArray), j < k → l[j]? = some y → (y.toList == x.toList) = false))
  case atStart => exact ⟨0, by omega, by omega, rfl, rfl, Lib.hid (fun j y hj => by omega)⟩
  case round =>
    obtain ⟨k, hk, rfl, rfl, rfl, hN⟩ := hrel
    by_cases hlt : k < l.length
    · obtain ⟨b, o, rfl, hc⟩ := h.out.at_ sEnc_len (by omega)
      have hg : l[k]? = some l[k] := List.getElem?_eq_getElem hlt
      have c0 : wr.cell? ⟨b, o + k, none⟩ = some (.string l[k]) := by simpa using hc k l[k] 0 _ hg rfl
      have hy := hany.out k
      generalize l[k] = y at *
      cases hb : (y.toList == x.toList)
      · have hN2 : ∀ (j : Nat) (z : ByteArray), j < k + 1 → l[j]? = some z → (z.toList == x.toList) = false := by
          intro j z hj hz
          by_cases e : j = k
          · rw [e, hg] at hz; cases hz; exact hb
          · exact hN.out j z (by omega) hz
        replace hN2 := Lib.hid hN2
        clear hc hg hy
        go_wp2_with fail
        go_roundg (l.length + 1 - (k + 1))
        case measure => omega
        case rel => exact ⟨k + 1, by omega, rfl, by go_num, rfl, hN2⟩
      · have hr := Lib.hid (hy ⟨y, hg, by simpa using hb⟩)
        clear hc hg hy
        go_wp2_with fail
        go_ret
        exact ⟨by rw [hr.out]; rfl, rfl⟩
    · have hr := Lib.hid (hno.out (fun j y hy => hN.out j y (by have := (List.getElem?_eq_some_iff.1 hy).1; omega) hy))
      go_wp2_with fail
      go_ret
      exact ⟨by rw [hr.out]; rfl, rfl⟩

set_option maxRecDepth 100000 in
set_option maxHeartbeats 4000000 in
theorem ratePlays_bad (gap : Int) (a1 : Option Addr) (n1 c1 : Nat) (a2 : Option Addr) (n2 c2 : Nat) (w : World) (h : gap < 0 ∨ 1073741824 < gap) :
    Calls Try.prog 5 #[.int .i64 gap, .slice a1 n1 c1, .slice a2 n2 c2] w fun e w' => e = .returned (.bool true) ∧ Below w.heap.size w w' := by
  have N1 := Lib.hid (pnew_no gap w h)
  have N2 := Lib.hid (rnew_no gap w h)
  have AW := Lib.hid (awake_any w)
  clear h
  go_enter Try.func5, Try.ntmps5
  go_wp2_with fail
  refine N1.out.mono ?_
  rintro e w' ⟨rfl, rfl⟩
  go_wp2_with fail
  refine N2.out.mono ?_
  rintro e w' ⟨rfl, rfl⟩
  go_wp2_with fail
  refine AW.out.mono ?_
  rintro e w' ⟨rfl, hO⟩
  go_wp2_with fail
  go_ret
  exact ⟨rfl, hO.below (Nat.le_refl _) (by simp)⟩

/-- What stands between two rounds. -/
structure Both (W w : World) (rb xb : Nat) (gap : Int) (B : List Nat) (v : Value) (l r : RTab) : Prop where
  rate : Rate w rb gap B l
  ref : RefR w xb gap v r
  alike : RAlike l r
  here : ∀ x ∈ B, x < w.heap.size ∧ x ≠ xb ∧ W.heap.size ≤ x ∧ v.ownBlock ≠ some x
  own : ∀ g, v.ownBlock = some g → W.heap.size ≤ g
  xw : W.heap.size ≤ xb
  below : Below W.heap.size W w
theorem Both.nil {W w w' : World} {rb xb : Nat} {gap : Int} {B : List Nat} {v : Value} {l r : RTab} (h : Both W w rb xb gap B v l r) (ho : Own [] w w') : Both W w' rb xb gap B v l r :=
  ⟨h.rate.nil ho, h.ref.own' ho (by simp) (by simp), h.alike, fun x hx => ⟨Nat.lt_of_lt_of_le (h.here x hx).1 ho.size, (h.here x hx).2⟩, h.own, h.xw, h.below.trans (ho.below h.below.size (by simp))⟩
/-- Behind both Asks. -/
theorem Both.asked {W w w2 w3 : World} {rb xb : Nat} {gap : Int} {B B2 : List Nat} {v v3 : Value} {l r l2 r3 : RTab} (h : Both W w rb xb gap B v l r) (hR : Rate w2 rb gap B2 l2) (hO : Own B w w2) (hB : ∀ x ∈ B2, x ∈ B ∨ w.heap.size ≤ x)
    (hX : RefR w3 xb gap v3 r3) (hO3 : Own (xb :: v.ownBlock.toList) w2 w3) (hv : ∀ g, v3.ownBlock = some g → v.ownBlock = some g ∨ w2.heap.size ≤ g) (hA : RAlike l2 r3) : ∃ B3, Both W w3 rb xb gap B3 v3 l2 r3 := by
  obtain ⟨B3, hR3, hs, hlt⟩ := hR.trim
  have hxl := lt_of_heap h.ref.row
  have hvl := fun g (hg : v.ownBlock = some g) => (h.ref.own.block hg).2
  have hz := hO.size
  have hz3 := hO3.size
  have hWz := h.below.size
  have hd : ∀ x ∈ B3, x ≠ xb ∧ v.ownBlock ≠ some x ∧ W.heap.size ≤ x := by
    intro x hx
    rcases hB x (hs x hx) with h1 | h1
    · have := h.here x h1
      exact ⟨this.2.1, this.2.2.2, this.2.2.1⟩
    · exact ⟨by omega, fun e => by have := hvl x e; omega, by omega⟩
  refine ⟨B3, hR3.own hO3 ?_, hX, hA, ?_, ?_, h.xw, ?_⟩
  · intro x hx hm
    rcases List.mem_cons.1 hm with h1 | h1
    · exact (hd x hx).1 h1
    · exact (hd x hx).2.1 (Option.mem_toList.1 h1)
  · intro x hx
    refine ⟨Nat.lt_of_lt_of_le (hlt x hx) hz3, (hd x hx).1, (hd x hx).2.2, fun e => ?_⟩
    rcases hv x e with h1 | h1
    · exact (hd x hx).2.1 h1
    · have := hlt x hx; omega
  · intro g hg
    rcases hv g hg with h1 | h1
    · exact h.own g h1
    · omega
  · have b1 : Below W.heap.size W w2 := h.below.trans (hO.below hWz (fun x hx => (h.here x hx).2.2.1))
    exact b1.trans (hO3.below b1.size (fun x hx => by
      rcases List.mem_cons.1 hx with h1 | h1
      · have := h.xw; omega
      · exact h.own x (Option.mem_toList.1 h1)))

set_option maxRecDepth 100000 in
set_option maxHeartbeats 8000000 in
theorem ratePlays_walk (gap : Int) (a1 : Option Addr) (n1 c1 : Nat) (z1 : Nat → ByteArray) (a2 : Option Addr) (n2 c2 : Nat) (z2 : Nat → Int) (w : World) (_hw : (Lit.int .i64 gap).wf = true) (h1 : StrRow w a1 n1 z1) (h2 : IntRow .i64 w a2 n2 z2) :
    Calls Try.prog 5 #[.int .i64 gap, .slice a1 n1 c1, .slice a2 n2 c2] w fun e w' => e = .returned (.bool true) ∧ Below w.heap.size w w' := by
  by_cases hbad : gap < 0 ∨ 1073741824 < gap
  · exact ratePlays_bad gap a1 n1 c1 a2 n2 c2 w hbad
  have hg0 : 0 ≤ gap := by omega
  have hg1 : gap ≤ 1073741824 := by omega
  have hl1 := h1.1
  have hl2 := h2.1
  replace h1 := Lib.hid h1
  replace h2 := Lib.hid h2
  clear hbad
  go_enter Try.func5, Try.ntmps5
  go_wp2_with fail
  refine (new_yes gap _ hg0 hg1).mono ?_
  rintro e w1 ⟨rb, B1, rfl, hR1, hO1, hB1⟩
  replace hR1 := Lib.hid hR1
  go_wp2_with fail
  refine (rnew_yes gap _ hg0 hg1).mono ?_
  rintro e w2 ⟨rfl, hX2, hO2⟩
  have hBoth : ∃ B, Both w w2 rb w1.heap.size gap B (.slice none 0 0) [] [] := by
    obtain ⟨B2, hR3, hs, hlt⟩ := hR1.out.trim
    have hz := hO1.size
    refine ⟨B2, hR3.nil hO2, hX2, ⟨List.Perm.refl _, List.Pairwise.nil, by simp, by simp⟩, fun x hx => ⟨Nat.lt_of_lt_of_le (hlt x hx) hO2.size, ?_, hB1 x (hs x hx), by simp [Value.ownBlock]⟩, by simp [Value.ownBlock], hz, (hO1.trans hO2).below (Nat.le_refl _) (by simp)⟩
    have := hlt x hx; omega
  obtain ⟨xb, hxb⟩ : ∃ xb, xb = w1.heap.size := ⟨_, rfl⟩
  rw [← hxb] at hBoth ⊢
  replace hBoth := Lib.hid hBoth
  clear hR1 hO1 hB1 hX2 hO2 hxb
  go_wp2_with fail
  go_loopg [11] (n1 + 1) (fun g i wr => ∃ (k : Nat) (B : List Nat) (v : Value) (l r : RTab), k ≤ n1 ∧ k ≤ 60 ∧ g = n1 + 1 - k ∧ i = .int .i64 k ∧ Both w wr rb xb gap B v l r)
  case atStart =>
    obtain ⟨B, hb⟩ := hBoth.out
    exact ⟨0, B, _, [], [], by omega, by omega, by omega, rfl, hb⟩
  case round =>
    obtain ⟨k, B, v, l, r, hk, hk6, rfl, rfl, hb⟩ := hrel
    clear hBoth
    by_cases hlt : k < n1 ∧ k < n2 ∧ k < 60
    · obtain ⟨k0, k1, k2⟩ := hlt
      obtain ⟨b1, o1, rfl, hb1, hx1⟩ := (h1.out).2 (by omega)
      obtain ⟨b2, o2, rfl, hb2, hx2⟩ := (h2.out).2 (by omega)
      have hs1 := hx1 k k0
      have hs2 := hx2 k k1
      have hwf := bounds_i64 hs2.2
      have hm0 := hwf.1
      have hm1 := hwf.2
      have hS : ∀ w', Below w.heap.size w w' → w'.cell? ⟨b1, o1 + k, none⟩ = some (.string (z1 k)) ∧ w'.cell? ⟨b2, o2 + k, none⟩ = some (.int .i64 (z2 k)) := fun w' hbw =>
        ⟨(hbw.cell (p := ⟨b1, o1 + k, none⟩) hb1).trans hs1, (hbw.cell (p := ⟨b2, o2 + k, none⟩) hb2).trans hs2.1⟩
      have hk2 : (k : Int) < 60 := by omega
      generalize z1 k = s at *
      generalize z2 k = t at *
      have M1 := may_any rb gap B l s t wr.drew (hb.rate.nil (Own.refl _ _).drew)
      have M2 := fun w' (ho : Own [] wr w') => rmay_any xb gap v r s t w' (hb.nil ho).ref (by rw [hb.alike.perm.length_eq]; exact hb.alike.len) ⟨hg0, hg1⟩ hb.alike.bd
      have A1 := fun w' (ho : Own [] wr w') => ask_any rb gap B l s t w' (hb.nil ho).rate
      have A2 := fun w' w'' (ho : Own [] wr w') (ho2 : Own B w' w'') => rask_any xb gap v r s t w'' ((hb.nil ho).ref.own' ho2 (fun hx => ((hb.here xb hx).2.1 rfl).elim) (fun g hg hx => (hb.here g hx).2.2.2 hg)) (by rw [hb.alike.perm.length_eq]; exact hb.alike.len) ⟨hg0, hg1⟩ hb.alike.bd
      have hal2 := hb.alike.ask gap s t
      unfold AskPost at A1
      unfold RAskPost at A2
      simp only [← hb.alike.may gap s t] at M2 A2
      generalize rAsk l gap s t = l2 at *
      generalize dAsk r gap s t = r2 at *
      generalize rMay l gap s t = m at *
      have hDis : ∀ w', Own [] wr w' → Below w.heap.size w w' := fun w' ho => hb.below.trans (ho.below hb.below.size (by simp))
      have hDis1 : ∀ w' w'', Own [] wr w' → Own B w' w'' → Below w.heap.size w w'' := fun w' w'' ho ho2 => (hDis w' ho).trans (ho2.below (Nat.le_trans hb.below.size ho.size) (fun x hx => (hb.here x hx).2.2.1))
      have hDis2 : ∀ w' w'' w3, Own [] wr w' → Own B w' w'' → Own (xb :: v.ownBlock.toList) w'' w3 → Below w.heap.size w w3 := fun w' w'' w3 ho ho2 ho3 => (hDis1 w' w'' ho ho2).trans (ho3.below (Nat.le_trans hb.below.size (Nat.le_trans ho.size ho2.size)) (fun x hx => by
        rcases List.mem_cons.1 hx with h3 | h3
        · have := hb.xw; omega
        · exact hb.own x (Option.mem_toList.1 h3)))
      have cS := hS _ hb.below
      obtain ⟨s1, s2⟩ := cS
      have hdr : Own [] wr wr.drew := (Own.refl _ _).drew
      replace hdr := Lib.hid hdr
      replace M1 := Lib.hid M1
      replace M2 := Lib.hid M2
      replace A1 := Lib.hid A1
      replace A2 := Lib.hid A2
      replace hS := Lib.hid hS
      replace hDis := Lib.hid hDis
      replace hDis1 := Lib.hid hDis1
      replace hDis2 := Lib.hid hDis2
      replace hal2 := Lib.hid hal2
      replace hb := Lib.hid hb
      clear hx1 hx2 hs1 hs2 hwf
      go_wp2_with fail
      clear h1 h2 hl1 hl2
      go_region_held3 (fun w' => w'.cell? ⟨b1, o1 + k, none⟩ = some (.string s) ∧ w'.cell? ⟨b2, o2 + k, none⟩ = some (.int .i64 t))
        (first | go_keep | exact kA | exact kB | exact kC | exact kD)
        ((first
          | (go_at_call 11; refine M1.out.mono ?_; rintro e wa ⟨rfl, hOa⟩; replace hOa := hdr.out.trans hOa; have kA := hS.out _ (hDis.out _ hOa); replace hOa := Lib.hid hOa)
          | (go_at_call 14; refine (M2.out _ hOa.out).mono ?_; rintro e wb ⟨rfl, hOb⟩; replace hOb := hOa.out.trans hOb; have kB := hS.out _ (hDis.out _ hOb); replace hOb := Lib.hid hOb)
          | (go_at_call 8; refine (A1.out _ hOb.out).mono ?_; rintro e wc ⟨rfl, B2, hR2, hOc, hB2⟩; have kC := hS.out _ (hDis1.out _ _ hOb.out hOc); replace hR2 := Lib.hid hR2; replace hOc := Lib.hid hOc; replace hB2 := Lib.hid hB2)
          | (go_at_call 15; refine (A2.out _ _ hOb.out hOc.out).mono ?_; rintro e wd ⟨rfl, v2, hX2, hOd, hv2⟩; have kD := hS.out _ (hDis2.out _ _ _ hOb.out hOc.out hOd); replace hX2 := Lib.hid hX2; replace hOd := Lib.hid hOd; replace hv2 := Lib.hid hv2)))
      obtain ⟨B3, hb3⟩ := (hb.out.nil hOb.out).asked hR2.out hOc.out hB2.out hX2.out hOd.out hv2.out hal2.out
      have hF := fun w' (ho : Own [] wd w') => hb3.nil ho
      have KY := keys_any rb gap B3 l2 wd hb3.rate
      unfold KeysPost at KY
      have hl2l := hb3.alike.perm.length_eq
      have hN8 := hb3.alike.len
      obtain ⟨a2, cap2, rfl⟩ := hb3.ref.own.sl
      generalize hN : r2.length = N at *
      have hN9 : N ≤ 8 := by omega
      have hcells : ∀ w', Own [] wd w' → w'.cell? ⟨b1, o1 + k, none⟩ = some (.string s) ∧ w'.cell? ⟨b2, o2 + k, none⟩ = some (.int .i64 t) ∧ w'.cell? ⟨xb, 1, none⟩ = some (.slice a2 N cap2) := fun w' ho => ⟨(hS.out w' (hF w' ho).below).1, (hS.out w' (hF w' ho).below).2, cell_of_row w' xb 1 _ _ _ (hF w' ho).ref.row⟩
      have hrd : ∀ w', Own [] wd w' → Reads mEnc w' (.slice a2 N cap2) r2 := fun w' ho => (hF w' ho).ref.own.reads mEnc_len
      replace hF := Lib.hid hF
      replace KY := Lib.hid KY
      replace hcells := Lib.hid hcells
      replace hrd := Lib.hid hrd
      replace hN := Lib.hid hN
      replace hl2l := Lib.hid hl2l
      clear hb3 hb M1 M2 A1 A2 hS hDis hDis1 hDis2 hOa hOb hR2 hOc hB2 hX2 hOd hv2 kA kB kC kD s1 s2 hdr
      go_wp2_with fail
      refine KY.out.mono ?_
      rintro e we ⟨vk, ks, rfl, hp, hs, hSk, hOe⟩
      obtain rfl := hal2.out.keys hp hs
      obtain ⟨ak, ck, rfl⟩ := hSk.sl
      have hrk := hSk.reads sEnc_len
      rw [List.length_map, hN.out] at hrk ⊢
      have LQ := Lib.hid (fun n => Calls.quiet_of_same ((len_any rb gap B3 l2 (we.drewN n) (hF.out _ (hOe.drewN _)).rate).mono (fun _ _ h => ⟨h.1, h.2.symm⟩)))
      have hl2' : (l2.length : Int) = N := by have := hl2l.out; omega
      simp only [hl2'] at LQ
      have e2 := (hcells.out we hOe).2.2
      have hrk2 := fun w' (ho : Own [] we w') => hrk.nil' ho
      replace hrk2 := Lib.hid hrk2
      replace hOe := Lib.hid hOe
      clear hSk hp hs KY hrk hl2' hl2l
      go_wp2_with fail
      go_quiet ((go_at_call 12; exact LQ.out _))
      go_wp2_with fail
      obtain ⟨wa', hwa⟩ : ∃ wa' : World, wa' = wr := ⟨_, rfl⟩
      obtain ⟨wo, hwo⟩ : ∃ wo : World, wo = we.drewN nq := ⟨_, rfl⟩
      rw [← hwo]
      have hO5 : Own [] wd wo := by rw [hwo]; exact hOe.out.drewN _
      have hO6 : Own [] we wo := by rw [hwo]; exact (Own.refl _ _).drewN _
      replace hO5 := Lib.hid hO5
      replace hO6 := Lib.hid hO6
      clear hwo e2 hwa LQ hOe
      go_loopg [13] N (fun g s13 wr => ∃ j : Nat, j ≤ N ∧ g = N - j ∧ s13 = .int .i64 j ∧ Aside (Own [] wo wr))
      case atStart => exact ⟨0, by omega, by omega, rfl, Own.refl _ _⟩
      case round =>
        obtain ⟨j, hj, rfl, rfl, hOj⟩ := hrel
        have hOj' : Own [] wo wr := hOj
        have hOd := hO5.out.trans hOj'
        have hOe := hO6.out.trans hOj'
        obtain ⟨s1, s2, e2⟩ := hcells.out wr hOd
        replace hOj' := Lib.hid hOj'
        by_cases hjl : j < N
        · have hjr : j < r2.length := by rw [hN.out]; exact hjl
          have hget : r2[j]? = some r2[j] := List.getElem?_eq_getElem hjr
          obtain ⟨bk, ok, rfl, hck⟩ := (hrk2.out wr hOe).at_ sEnc_len (by rw [List.length_map]; omega)
          obtain ⟨bx, ox, rfl, hcx⟩ := (hrd.out wr hOd).at_ mEnc_len (by omega)
          have p0 := hck j r2[j].1 0 _ (by rw [List.getElem?_map, hget]; rfl) rfl
          have LS := last_any rb gap B3 l2 r2[j].1 wr (hF.out wr hOd).rate
          rw [hal2.out.at_ hget] at LS
          have hKx := fun w' (ho : Own [] wr w') => And.intro ((hcells.out w' (hOd.trans ho)).2.2) ((hrd.out w' (hOd.trans ho)).at_ mEnc_len (by omega))
          have hKs := fun w' (ho : Own [] wr w') => ((hrk2.out w' (hOe.trans ho)).at_ sEnc_len (by rw [List.length_map]; omega))
          have hK : ∀ w', Own [] wr w' → w'.cell? ⟨xb, 1, none⟩ = some (.slice (some ⟨bx, ox, none⟩) N cap2) ∧ w'.cell? ⟨bk, ok + j, none⟩ = some (.string r2[j].1) ∧ w'.cell? ⟨bx, ox + j * 2, none⟩ = some (.string r2[j].1) ∧ w'.cell? ⟨bx, ox + j * 2 + 1, none⟩ = some (.int .i64 r2[j].2) := by
            intro w' ho
            obtain ⟨h1, bx', ox', he, h2⟩ := hKx w' ho
            obtain ⟨bk', ok', he', h3⟩ := hKs w' ho
            cases he
            cases he'
            have q0 := h3 j r2[j].1 0 _ (by rw [List.getElem?_map, hget]; rfl) rfl
            have q1 := h2 j r2[j] 0 _ hget rfl
            have q2 := h2 j r2[j] 1 _ hget rfl
            refine ⟨h1, by simpa using q0, by simpa using q1, by rw [Nat.add_assoc]; exact q2⟩
          replace hK := Lib.hid hK
          simp only [Option.getD_some, Option.isSome_some] at LS
          replace LS := Lib.hid LS
          generalize r2[j].1 = y1 at *
          generalize r2[j].2 = y2 at *
          simp only [Nat.mul_one, Nat.add_zero] at p0
          have q0 : (0 : Int) ≤ j := by omega
          have q1 : (j : Int) < N := by omega
          clear hget hck hcx hKx hKs hOe
          go_wp2_with fail
          refine LS.out.mono ?_
          rintro e wl ⟨rfl, hOl⟩
          obtain ⟨x0, x1, x2, x3⟩ := hK.out wl hOl
          have hOl2 := Lib.hid (hOj'.out.trans hOl)
          clear hOl LS
          go_wp2_with fail
          go_quiet (fail)
          go_wp2_with fail
          go_roundg (N - (j + 1))
          case measure => omega
          case rel => exact ⟨j + 1, by omega, rfl, by go_num, hOl2.out.drewN _⟩
        · obtain rfl : j = N := by omega
          have LS := last_any rb gap B3 l2 s wr (hF.out wr hOd).rate
          rw [hal2.out.in_ s] at LS
          have IL := fun w' (ho : Own [] wr w') => inList_any _ _ s w' (hrk2.out w' (hOe.trans ho)) (by rw [List.length_map, hN.out]; omega)
          have hK1 := fun w' (ho : Own [] wr w') => (hcells.out w' (hOd.trans ho)).1
          have hKf := fun w' (ho : Own [] wr w') => hF.out w' (hOd.trans ho)
          generalize ((r2.map (·.1)).any fun y => y == s) = bb at *
          replace LS := Lib.hid LS
          replace IL := Lib.hid IL
          replace hK1 := Lib.hid hK1
          replace hKf := Lib.hid hKf
          clear hOe hOd
          go_wp2_with fail
          refine LS.out.mono ?_
          rintro e wl ⟨rfl, hOl⟩
          have x0 := hK1.out wl hOl
          have IL2 := Lib.hid (IL.out wl hOl)
          have hKf2 := Lib.hid (hKf.out wl hOl)
          clear hOl LS
          go_wp2_with fail
          refine IL2.out.mono ?_
          rintro e wm ⟨rfl, rfl⟩
          go_wp2_with fail
          go_roundg (n1 + 1 - (k + 1))
          case measure => omega
          case rel => exact ⟨k + 1, B3, _, l2, r2, by omega, by omega, by omega, by go_num, hKf2.out⟩
    · have hA := Lib.hid (awake_any wr)
      have hB := Lib.hid hb.below
      have hsr := hb.below.size
      clear hb h1 h2
      by_cases q0 : k < n1
      · by_cases q1 : k < n2
        · have q2 : ¬ k < 60 := fun q2 => hlt ⟨q0, q1, q2⟩
          clear hlt
          go_wp2_with fail
          refine hA.out.mono ?_
          rintro e w3 ⟨rfl, hA3⟩
          go_wp2_with fail
          go_ret
          exact ⟨rfl, hB.out.trans (hA3.below hsr (by simp))⟩
        · clear hlt
          go_wp2_with fail
          refine hA.out.mono ?_
          rintro e w3 ⟨rfl, hA3⟩
          go_wp2_with fail
          go_ret
          exact ⟨rfl, hB.out.trans (hA3.below hsr (by simp))⟩
      · clear hlt
        go_wp2_with fail
        refine hA.out.mono ?_
        rintro e w3 ⟨rfl, hA3⟩
        go_wp2_with fail
        go_ret
        exact ⟨rfl, hB.out.trans (hA3.below hsr (by simp))⟩
end Go.Proofs.Ytigkpcdlfjlehaa
