/- The library's sort at uint64: order2Ordered, medianOrdered, medianAdjacentOrdered, choosePivotOrdered: the pivot lies in range. -/
import Derived.Test.YtjbmmgclkhigiaaU0
set_option linter.unusedSimpArgs false
set_option linter.unusedVariables false
namespace Go.Proofs.Ytjbmmgclkhigiaa
open Go.RowKit

theorem frozen_same {w w' : World} {a : Addr} (h : w'.heap[a.block]? = w.heap[a.block]?) : w'.frozen? a = w.frozen? a := by
  unfold World.frozen?
  rw [h]
theorem holds_own {α : Type} [Inhabited α] {enc : α → Value} {S : List Nat} {w w' : World} {blk off : Nat} {d : Array α} (h : Sort.Holds enc w blk off d) (ho : Own S w w') (hb : blk ∉ S) : Sort.Holds enc w' blk off d := fun j hj => by
  have hl : blk < w.heap.size := block_lt_of_cell (h j hj).1
  exact ⟨(ho.cell (p := ⟨blk, off + j, none⟩) hl hb).trans (h j hj).1, (frozen_same (ho.block blk hl hb)).trans (h j hj).2⟩
/-- The counter of exchanges. -/
def Cnt (w : World) (sb : Nat) (s : Int) : Prop := w.heap[sb]? = some (.cells #[.int .i64 s] 3 (0, 0))
theorem Cnt.cell {w : World} {sb : Nat} {s : Int} (h : Cnt w sb s) : w.cell? ⟨sb, 0, none⟩ = some (.int .i64 s) := by rw [cell_of_row _ _ _ _ _ _ h]; rfl
theorem Cnt.set {w : World} {sb : Nat} {s : Int} (h : Cnt w sb s) (t : Int) : Cnt (w.setCell ⟨sb, 0, none⟩ (.int .i64 t)) sb t := by
  have := heap_setCell_same _ sb 0 _ _ (.int .i64 t) h
  simpa [Cnt] using this
def CntP (w : World) (sb : Nat) (s m : Int) (w' : World) : Prop := Own [sb] w w' ∧ ∃ s', Cnt w' sb s' ∧ s ≤ s' ∧ s' ≤ s + m
theorem CntP.drew {w w1 : World} {sb : Nat} {s m : Int} (h : CntP w sb s m w1) : CntP w sb s m w1.drew := let ⟨o, s', c, l⟩ := h; ⟨o.drew, s', c, l⟩
theorem CntP.trans {w w1 w2 : World} {sb : Nat} {s m m2 : Int} (h : CntP w sb s m w1) (k : ∀ s', Cnt w1 sb s' → s ≤ s' → s' ≤ s + m → CntP w1 sb s' m2 w2) : CntP w sb s (m + m2) w2 := by
  obtain ⟨o, s', c, l1, l2⟩ := h
  obtain ⟨o2, s2, c2, l3, l4⟩ := k s' c l1 l2
  exact ⟨o.trans o2, s2, c2, by omega, by omega⟩

set_option maxHeartbeats 8000000 in
set_option maxRecDepth 1000000 in
theorem ord64 (blk off cap n a b sb : Nat) (d : Array Int) (hn : d.size = n) (s : Int) (w : World) (hH : Sort.Holds eU w blk off d) (ha : a < n) (hb : b < n) (hS : Cnt w sb s) (h0 : 0 ≤ s) (hs : s < 1000000) :
    Calls Try.prog 52 #[.slice (some ⟨blk, off, none⟩) n cap, .int .i64 a, .int .i64 b, .pointer (some ⟨sb, 0, none⟩)] w fun e w' =>
      ∃ x y : Nat, e = .returned (.tuple #[.int .i64 x, .int .i64 y]) ∧ ((x = a ∧ y = b) ∨ (x = b ∧ y = a)) ∧ CntP w sb s 1 w' := by
  obtain ⟨G, HG, hcw, hfw⟩ := (Rw.refl hH).fam hn
  have cs := hS.cell
  have fs := frozen_of_row _ sb 0 _ _ hS
  have hwr : IntKind.wrap .i64 (s + 1) = s + 1 := by rw [IntKind.wrap_i64]; omega
  have hP : Aside (∀ W t, Own [] w W → s ≤ t → t ≤ s + 1 → CntP w sb s 1 (W.setCell ⟨sb, 0, none⟩ (.int .i64 t))) := fun W t o h1 h2 =>
    ⟨o.nil.setCell (.inl (by simp)) _, t, (show Cnt W sb s from o.heap hS (by simp)).set t, h1, h2⟩
  have hQ : Aside (∀ W, Own [] w W → CntP w sb s 1 W) := fun W o => ⟨o.nil, s, o.heap hS (by simp), Int.le_refl _, by omega⟩
  clear hS hH hn
  go_enter Try.func52, Try.ntmps52
  go_wp2_with fail
  go_region_with (go_at_call 41; refine (less64 _ _ _).mono ?_; rintro e w' ⟨rfl, rfl⟩)
  all_goals (try go_wp2_with fail)
  all_goals first
    | (have hlt : Sort.ltInt (G b) (G a) = true := by assumption
       go_ret2
       exact ⟨b, a, rfl, .inr ⟨rfl, rfl⟩, (hP.out _ _ (Own.refl [] w) (by omega) (by omega)).drew⟩)
    | (have hlt : Sort.ltInt (G b) (G a) = false := by assumption
       go_ret2
       exact ⟨a, b, rfl, .inl ⟨rfl, rfl⟩, hQ.out _ (by first | exact (Own.refl [] w).drew | exact Own.refl [] w)⟩)

set_option maxHeartbeats 8000000 in
set_option maxRecDepth 1000000 in
theorem med64 (blk off cap n a b c sb : Nat) (d : Array Int) (hn : d.size = n) (s : Int) (w : World) (hH : Sort.Holds eU w blk off d) (ha : a < n) (hb : b < n) (hc : c < n) (hne : blk ≠ sb) (hS : Cnt w sb s) (h0 : 0 ≤ s) (hs : s < 900000) :
    Calls Try.prog 50 #[.slice (some ⟨blk, off, none⟩) n cap, .int .i64 a, .int .i64 b, .int .i64 c, .pointer (some ⟨sb, 0, none⟩)] w fun e w' =>
      ∃ x : Nat, e = .returned (.int .i64 x) ∧ (x = a ∨ x = b ∨ x = c) ∧ CntP w sb s 3 w' := by
  have hn' : Aside (d.size = n) := hn
  have H1 : Aside (∀ W (x y : Nat) t, Own [sb] w W → Cnt W sb t → s ≤ t → t ≤ s + 2 → x < n → y < n → Calls Try.prog 52 #[.slice (some ⟨blk, off, none⟩) n cap, .int .i64 x, .int .i64 y, .pointer (some ⟨sb, 0, none⟩)] W fun e w' =>
      ∃ u v : Nat, e = .returned (.tuple #[.int .i64 u, .int .i64 v]) ∧ ((u = x ∧ v = y) ∨ (u = y ∧ v = x)) ∧ CntP W sb t 1 w') := fun W x y t o hC h1 h2 hx hy =>
    ord64 blk off cap n x y sb d hn'.out t W (holds_own hH o (by simpa using hne)) hx hy hC (by omega) (by omega)
  have c1 := Lib.hid (H1.out w a b s (Own.refl _ _) hS (by omega) (by omega) ha hb)
  clear hH hn
  replace hS := Lib.hid hS
  go_enter Try.func50, Try.ntmps50
  go_wp2_with fail
  refine c1.out.mono ?_
  rintro e w1 ⟨x1, y1, rfl, hxy, hO1, s1, hC1, l1, l2⟩
  have k1 : x1 < n ∧ y1 < n ∧ (x1 = a ∨ x1 = b) ∧ (y1 = a ∨ y1 = b) := by omega
  have c2 := Lib.hid (H1.out w1 y1 c s1 hO1 hC1 l1 (by omega) k1.2.1 hc)
  have k1' := Lib.hid k1
  replace hO1 := Lib.hid hO1
  replace hC1 := Lib.hid hC1
  clear hxy k1
  go_wp2_with fail
  refine c2.out.mono ?_
  rintro e w2 ⟨x2, y2, rfl, hxy, hO2, s2, hC2, l3, l4⟩
  obtain ⟨q1, q2, q3, q4⟩ := k1'.out
  have k2 : x2 < n ∧ y2 < n ∧ (x2 = a ∨ x2 = b ∨ x2 = c) := by omega
  have hO12 := Lib.hid (hO1.out.trans hO2)
  have c3 := Lib.hid (H1.out w2 x1 x2 s2 hO12.out hC2 (by omega) (by omega) q1 k2.1)
  have k2' := Lib.hid k2
  replace hC2 := Lib.hid hC2
  clear hxy k2 q1 q2 q3 q4 hO2
  go_wp2_with fail
  refine c3.out.mono ?_
  rintro e w3 ⟨x3, y3, rfl, hxy, hO3, s3, hC3, l5, l6⟩
  obtain ⟨q1, q2, q3, q4⟩ := k1'.out
  obtain ⟨p1, p2, p3⟩ := k2'.out
  have hv : y3 = a ∨ y3 = b ∨ y3 = c := by omega
  have hO := hO12.out.trans hO3
  clear hxy q1 q2 q3 q4 p1 p2 p3
  replace hv := Lib.hid hv
  go_wp2_with fail
  go_ret
  exact ⟨y3, rfl, hv.out, hO, s3, hC3, by omega, by omega⟩

set_option maxHeartbeats 8000000 in
set_option maxRecDepth 1000000 in
theorem adj64 (blk off cap n a sb : Nat) (d : Array Int) (hn : d.size = n) (s : Int) (w : World) (hH : Sort.Holds eU w blk off d) (ha : 1 ≤ a) (ha2 : a + 1 < n) (hsz : n < 4611686018427387904) (hne : blk ≠ sb) (hS : Cnt w sb s) (h0 : 0 ≤ s) (hs : s < 900000) :
    Calls Try.prog 49 #[.slice (some ⟨blk, off, none⟩) n cap, .int .i64 a, .pointer (some ⟨sb, 0, none⟩)] w fun e w' =>
      ∃ x : Nat, e = .returned (.int .i64 x) ∧ a - 1 ≤ x ∧ x ≤ a + 1 ∧ CntP w sb s 3 w' := by
  have c1 := med64 blk off cap n (a - 1) a (a + 1) sb d hn s w hH (by omega) (by omega) ha2 hne hS h0 hs
  rw [show ((a - 1 : Nat) : Int) = (a : Int) - 1 by omega, show ((a + 1 : Nat) : Int) = (a : Int) + 1 by omega] at c1
  replace c1 := Lib.hid c1
  clear hH hn hS
  go_enter Try.func49, Try.ntmps49
  go_wp2_with (go_at_call 50; refine c1.out.mono ?_; rintro e w1 ⟨x, rfl, hx, hC⟩; replace hx := Lib.hid hx; replace hC := Lib.hid hC)
  go_ret
  have := hx.out
  exact ⟨x, rfl, by omega, by omega, hC.out⟩

/-- What choosePivot gives: a place in range, a hint, and new memory alone. -/
def PivP (a b : Nat) (w : World) (e : Ending) (w' : World) : Prop := ∃ (p : Nat) (h : Int), e = .returned (.tuple #[.int .i64 p, .int .i64 h]) ∧ a ≤ p ∧ p < b ∧ Own [] w w'
theorem pivP_mk {a b : Nat} {w w0 w' : World} {s0 : Int} {sb : Nat} (o : Own [] w w0) (hsb : w.heap.size ≤ sb) (o2 : Own [sb] w0 w') {p : Nat} (h1 : a ≤ p) (h2 : p < b) (h : Int) : PivP a b w (.returned (.tuple #[.int .i64 p, .int .i64 h])) w' :=
  ⟨p, h, rfl, h1, h2, o.trans' o2 (fun x hx => by simp at hx; subst hx; exact .inr hsb)⟩
set_option maxHeartbeats 8000000 in
set_option maxRecDepth 1000000 in
theorem piv64 (blk off cap a b n : Nat) (d : Array Int) (hn : d.size = n) (w : World) (hH : Sort.Holds eU w blk off d) (hab : a < b) (hb : b ≤ n) (hsz : n < 4611686018427387904) :
    Calls Try.prog 38 #[.slice (some ⟨blk, off, none⟩) n cap, .int .i64 a, .int .i64 b] w (PivP a b w) := by
  have hn' : Aside (d.size = n) := hn
  have hbl : blk < w.heap.size := block_lt_of_cell (hH a (by omega)).1
  obtain ⟨sb, hsb⟩ : ∃ sb, sb = w.heap.size := ⟨_, rfl⟩
  have hO0 : Own [] w (w.alloc (.cells #[.int .i64 0] 3)) := (Own.refl _ _).alloc _
  have hC0 : Cnt (w.alloc (.cells #[.int .i64 0] 3)) sb 0 := by subst hsb; exact heap_alloc_new w _
  have hH0 := holds_own hH hO0 (by simp)
  have HM : Aside (∀ W (x y z : Nat) t, Own [sb] (w.alloc (.cells #[.int .i64 0] 3)) W → Cnt W sb t → 0 ≤ t → t < 900 → x < n → y < n → z < n → Calls Try.prog 50 #[.slice (some ⟨blk, off, none⟩) n cap, .int .i64 x, .int .i64 y, .int .i64 z, .pointer (some ⟨sb, 0, none⟩)] W fun e w' =>
      ∃ u : Nat, e = .returned (.int .i64 u) ∧ (u = x ∨ u = y ∨ u = z) ∧ CntP W sb t 3 w') := fun W x y z t o hC h1 h2 hx hy hz =>
    med64 blk off cap n x y z sb d hn'.out t W (holds_own hH0 o (by simp; omega)) hx hy hz (by omega) hC h1 (by omega)
  have HA : Aside (∀ W (x : Nat) t, Own [sb] (w.alloc (.cells #[.int .i64 0] 3)) W → Cnt W sb t → 0 ≤ t → t < 900 → 1 ≤ x → x + 1 < n → Calls Try.prog 49 #[.slice (some ⟨blk, off, none⟩) n cap, .int .i64 x, .pointer (some ⟨sb, 0, none⟩)] W fun e w' =>
      ∃ u : Nat, e = .returned (.int .i64 u) ∧ x - 1 ≤ u ∧ u ≤ x + 1 ∧ CntP W sb t 3 w') := fun W x t o hC h1 h2 hx hy =>
    adj64 blk off cap n x sb d hn'.out t W (holds_own hH0 o (by simp; omega)) hx hy hsz (by omega) hC h1 (by omega)
  obtain ⟨I, hI⟩ : ∃ I : Nat, I = a + (b - a) / 4 * 1 := ⟨_, rfl⟩
  obtain ⟨J, hJ⟩ : ∃ J : Nat, J = a + (b - a) / 4 * 2 := ⟨_, rfl⟩
  obtain ⟨K, hK⟩ : ∃ K : Nat, K = a + (b - a) / 4 * 3 := ⟨_, rfl⟩
  have eI : ((a : Int) + ((b : Int) - (a : Int)) / 4) = (I : Int) := by omega
  have eJ : ((a : Int) + ((b : Int) - (a : Int)) / 4 * 2) = (J : Int) := by omega
  have eK : ((a : Int) + ((b : Int) - (a : Int)) / 4 * 3) = (K : Int) := by omega
  have rJ : a ≤ J ∧ J < b := by omega
  have hFin : Aside (∀ w' p (h : Int), Own [sb] (w.alloc (.cells #[.int .i64 0] 3)) w' → a ≤ p → p < b → PivP a b w (.returned (.tuple #[.int .i64 p, .int .i64 h])) w') := fun w' p h o h1 h2 => pivP_mk (s0 := 0) hO0 (by omega) o h1 h2 h
  have rI : 8 ≤ b - a → a + 2 ≤ I ∧ I + 2 ≤ J ∧ J + 2 ≤ K ∧ K + 2 ≤ b := by omega
  replace rI := Lib.hid rI
  replace rJ := Lib.hid rJ
  have hsb' := Lib.hid hsb
  clear hH hn hI hJ hK hH0
  by_cases h8 : 8 ≤ b - a
  · obtain ⟨i1, i2, i3, i4⟩ := rI.out h8
    by_cases h50 : 50 ≤ b - a
    · have cI := Lib.hid (HA.out _ I 0 (Own.refl _ _) hC0 (by omega) (by omega) (by omega) (by omega))
      clear i1 i2 i3 i4
      have h8z : (8 : Int) ≤ (b : Int) - (a : Int) := by omega
      have h50z : (50 : Int) ≤ (b : Int) - (a : Int) := by omega
      replace hC0 := Lib.hid hC0
      clear h8 h50
      subst hsb
      go_enter Try.func38, Try.ntmps38
      go_wp2_with fail
      refine cI.out.mono ?_
      rintro e w1 ⟨u1, rfl, b1, b2, hO1, s1, hC1, l1, l2⟩
      obtain ⟨i1, i2, i3, i4⟩ := rI.out (by omega)
      have cJ := Lib.hid (HA.out w1 J s1 hO1 hC1 (by omega) (by omega) (by omega) (by omega))
      replace hO1 := Lib.hid hO1
      replace hC1 := Lib.hid hC1
      clear i1 i2 i3 i4
      go_wp2_with fail
      refine cJ.out.mono ?_
      rintro e w2 ⟨u2, rfl, b3, b4, hO2, s2, hC2, l3, l4⟩
      obtain ⟨i1, i2, i3, i4⟩ := rI.out (by omega)
      have hO12 := Lib.hid (hO1.out.trans hO2)
      have cK := Lib.hid (HA.out w2 K s2 hO12.out hC2 (by omega) (by omega) (by omega) (by omega))
      replace hC2 := Lib.hid hC2
      clear i1 i2 i3 i4 hO2
      go_wp2_with fail
      refine cK.out.mono ?_
      rintro e w3 ⟨u3, rfl, b5, b6, hO3, s3, hC3, l5, l6⟩
      obtain ⟨i1, i2, i3, i4⟩ := rI.out (by omega)
      have hO13 := Lib.hid (hO12.out.trans hO3)
      have cM := Lib.hid (HM.out w3 u1 u2 u3 s3 hO13.out hC3 (by omega) (by omega) (by omega) (by omega) (by omega))
      replace hC3 := Lib.hid hC3
      clear i1 i2 i3 i4 hO3
      go_wp2_with fail
      refine cM.out.mono ?_
      rintro e w4 ⟨p, rfl, hp, hO4, s4, hC4, l7, l8⟩
      obtain ⟨i1, i2, i3, i4⟩ := rI.out (by omega)
      have hp2 : a ≤ p ∧ p < b := by omega
      have cs := hC4.cell
      have hO14 := Lib.hid (hO13.out.trans hO4)
      replace hC4 := Lib.hid hC4
      replace hp2 := Lib.hid hp2
      clear i1 i2 i3 i4 hO4 hp b1 b2 b3 b4 b5 b6
      go_wp2_with fail
      all_goals
        go_ret2
        exact hFin.out _ _ _ hO14.out hp2.out.1 hp2.out.2
    · have cM := Lib.hid (HM.out _ I J K 0 (Own.refl _ _) hC0 (by omega) (by omega) (by omega) (by omega) (by omega))
      clear i1 i2 i3 i4
      have h8z : (8 : Int) ≤ (b : Int) - (a : Int) := by omega
      have h50z : ¬ (50 : Int) ≤ (b : Int) - (a : Int) := by omega
      replace hC0 := Lib.hid hC0
      clear h8 h50
      subst hsb
      go_enter Try.func38, Try.ntmps38
      go_wp2_with fail
      refine cM.out.mono ?_
      rintro e w4 ⟨p, rfl, hp, hO4, s4, hC4, l7, l8⟩
      obtain ⟨i1, i2, i3, i4⟩ := rI.out (by omega)
      have hp2 : a ≤ p ∧ p < b := by omega
      have cs := hC4.cell
      have hO14 := Lib.hid hO4
      replace hC4 := Lib.hid hC4
      replace hp2 := Lib.hid hp2
      clear i1 i2 i3 i4 hO4 hp
      go_wp2_with fail
      all_goals
        go_ret2
        exact hFin.out _ _ _ hO14.out hp2.out.1 hp2.out.2
  · have h8z : ¬ (8 : Int) ≤ (b : Int) - (a : Int) := by omega
    have cs := hC0.cell
    replace hC0 := Lib.hid hC0
    clear h8
    subst hsb
    go_enter Try.func38, Try.ntmps38
    go_wp2_with fail
    all_goals
      go_ret2
      exact hFin.out _ _ _ (Own.refl _ _) rJ.out.1 rJ.out.2
end Go.Proofs.Ytjbmmgclkhigiaa
