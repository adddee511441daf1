/- The two alias tables beside each other: AliasPlays' steps. -/
import Derived.Test.YtjbmmgclkhigiaaAliasActs
import Derived.Deep.LoopGhost
import Derived.Deep.QuietTactic
set_option linter.unusedSimpArgs false
set_option linter.unusedVariables false
namespace Go.Proofs.Ytjbmmgclkhigiaa
open Go.RowKit

theorem rset2_any (xb : Nat) (v : Value) (R : ATab) (ow : ByteArray) (a : Option Addr) (L : List Itm) (c : Nat) (w : World) (h : RTab w xb v R) (hl : R.length ≤ 1000000) (hA : ItemsAt w a L) (hax : 0 < L.length → ∀ q, a = some q → q.block ≠ xb) :
    Calls Try.prog 15 #[.pointer (some ⟨xb, 0, none⟩), .string ow, .slice a L.length c] w fun e w' => e = .returned (.int .i64 (rSet R ow L).1) ∧ ∃ v', RTab w' xb v' (rSet R ow L).2 ∧ Own [xb] w w' ∧ ∀ g, v'.ownBlock = some g → v.ownBlock = some g ∨ w.heap.size ≤ g := by
  unfold rSet
  by_cases hz : rTry R ow L = 0
  · rw [if_pos hz]
    refine (rset_zero xb v R ow a L c w h hl hA hax hz).mono ?_
    rintro e w1 ⟨rfl, v', h1, h2, h3⟩
    exact ⟨rfl, v', h1, h2, fun g hg => .inr (h3 rfl g hg)⟩
  · rw [if_neg hz]
    have T := rtry_any xb v R ow a L c w h hl hA
    have hz1 : ((rTry R ow L : Int) != 0) = true := by simpa using hz
    generalize rTry R ow L = r at T hz hz1
    replace T := Lib.hid T
    replace h := Lib.hid h
    replace hz := Lib.hid hz
    go_enter Try.func15, Try.ntmps15
    go_wp2_with fail
    refine T.out.mono ?_
    rintro e w1 ⟨rfl, hO1⟩
    replace hO1 := Lib.hid hO1
    go_wp2_with fail
    go_ret
    exact ⟨rfl, v, h.out.nil' hO1.out, hO1.out.nil, fun g hg => .inl hg⟩

/-- Both tables in memory, and a block aside. -/
def M30 (w0 wr : World) (b m xb : Nat) (Lo : Option (Nat × Obj)) (l R : ATab) : Prop :=
  ∃ v, Tab wr b m l ∧ RTab wr xb v R ∧ Below w0.heap.size w0 wr ∧ w0.heap.size ≤ b ∧ w0.heap.size ≤ m ∧ w0.heap.size ≤ xb ∧ xb ≠ b ∧ xb ≠ m ∧ (∀ g, v.ownBlock = some g → g ≠ b ∧ g ≠ m ∧ w0.heap.size ≤ g) ∧
    ∀ p, Lo = some p → wr.heap[p.1]? = some p.2 ∧ p.1 ≠ b ∧ p.1 ≠ m ∧ p.1 ≠ xb ∧ v.ownBlock ≠ some p.1
section
variable {w0 wr : World} {b m xb : Nat} {Lo : Option (Nat × Obj)} {l R : ATab}
theorem M30.below (h : M30 w0 wr b m xb Lo l R) : Below w0.heap.size w0 wr := by obtain ⟨v, _, _, h, _⟩ := h; exact h
theorem M30.size (h : M30 w0 wr b m xb Lo l R) : w0.heap.size ≤ wr.heap.size := h.below.size
theorem M30.nil' (h : M30 w0 wr b m xb Lo l R) {w' : World} (ho : Own [] wr w') : M30 w0 w' b m xb Lo l R := by
  obtain ⟨v, h1, h2, h3, h4, h5, h6, h7, h8, h9, h10⟩ := h
  exact ⟨v, h1.own ho (by simp) (by simp), h2.nil' ho, h3.trans (ho.below h3.size (by simp)), h4, h5, h6, h7, h8, h9, fun p hp => ⟨ho.heap (h10 p hp).1 (by simp), (h10 p hp).2⟩⟩
theorem M30.off (h : M30 w0 wr b m xb Lo l R) : M30 w0 wr b m xb none l R := by
  obtain ⟨v, h1, h2, h3, h4, h5, h6, h7, h8, h9, h10⟩ := h
  exact ⟨v, h1, h2, h3, h4, h5, h6, h7, h8, h9, fun p hp => by cases hp⟩
theorem M30.put (h : M30 w0 wr b m xb Lo l R) {w' : World} {q : Nat} {o : Obj} (ho : Own [] wr w') (hq : wr.heap.size ≤ q) (hw : w'.heap[q]? = some o) : M30 w0 w' b m xb (some (q, o)) l R := by
  obtain ⟨v, h1, h2, h3, h4, h5, h6, h7, h8, h9, h10⟩ := h
  have hlt := h1.lt
  have hxl := lt_of_heap h2.row
  refine ⟨v, h1.own ho (by simp) (by simp), h2.nil' ho, h3.trans (ho.below h3.size (by simp)), h4, h5, h6, h7, h8, h9, ?_⟩
  intro p hp
  cases hp
  refine ⟨hw, by show q ≠ b; omega, by show q ≠ m; omega, by show q ≠ xb; omega, fun e => ?_⟩
  rcases h2.own.2 with ⟨e1, _⟩ | ⟨g, cap, cur, e1, _, hg, _⟩
  · rw [e1] at e; simp [Value.ownBlock] at e
  · rw [e1] at e
    simp [Value.ownBlock] at e
    have := lt_of_heap hg
    omega
theorem M30.tab (h : M30 w0 wr b m xb Lo l R) : Tab wr b m l := by obtain ⟨v, h, _⟩ := h; exact h
theorem M30.aside {q : Nat} {o : Obj} (h : M30 w0 wr b m xb (some (q, o)) l R) : wr.heap[q]? = some o := by
  obtain ⟨v, h1, h2, h3, h4, h5, h6, h7, h8, h9, h10⟩ := h
  exact (h10 _ rfl).1
theorem M30.xrow (h : M30 w0 wr b m xb Lo l R) : ∃ v, wr.heap[xb]? = some (.cells #[v] 46 (0, 0)) := by obtain ⟨v, h1, h2, _⟩ := h; exact ⟨v, h2.row⟩
/-- The program's table is changed. -/
theorem M30.own (h : M30 w0 wr b m xb Lo l R) {w' : World} {l' : ATab} (hT : Tab w' b m l') (ho : Own [m] wr w') : M30 w0 w' b m xb Lo l' R := by
  obtain ⟨v, h1, h2, h3, h4, h5, h6, h7, h8, h9, h10⟩ := h
  exact ⟨v, hT, h2.own' ho (by simpa using h8) (fun g hg => by have := h9 g hg; simp; exact this.2.1), h3.trans (ho.below h3.size (by simpa using h5)), h4, h5, h6, h7, h8, h9, fun p hp => ⟨ho.heap (h10 p hp).1 (by simpa using (h10 p hp).2.2.1), (h10 p hp).2⟩⟩
theorem M30.set (h : M30 w0 wr b m xb Lo l R) (ow : ByteArray) (a : Option Addr) (L : List Itm) (c : Nat) (hA : ItemsAt w0 a L) (hl : l.length ≤ 64) :
    Calls Try.prog 9 #[.pointer (some ⟨b, 0, none⟩), .string ow, .slice a L.length c] wr fun e w' => e = .returned (.int .i64 (aSet l ow L).1) ∧ M30 w0 w' b m xb Lo (aSet l ow L).2 R := by
  have hI := itemRow_of (hA.below h.below (Nat.le_refl _))
  have S := set_any b m l ow a L.length c (itAt L) wr h.tab hI (by omega)
  rw [itList_of] at S
  exact S.mono fun e w' ⟨h1, h2, h3⟩ => ⟨h1, h.own h2 h3⟩
theorem M30.try (h : M30 w0 wr b m xb Lo l R) (ow : ByteArray) (a : Option Addr) (L : List Itm) (c : Nat) (hA : ItemsAt w0 a L) (hl : l.length ≤ 64) :
    Calls Try.prog 14 #[.pointer (some ⟨b, 0, none⟩), .string ow, .slice a L.length c] wr fun e w' => e = .returned (.int .i64 (aMay l ow L).1) ∧ M30 w0 w' b m xb Lo l R := by
  have hI := itemRow_of (hA.below h.below (Nat.le_refl _))
  have S := try_any b m l ow a L.length c (itAt L) wr h.tab hI (by omega)
  rw [itList_of] at S
  exact S.mono fun e w' ⟨h1, h2⟩ => ⟨h1, h.nil' h2⟩
theorem M30.drop (h : M30 w0 wr b m xb Lo l R) (ow : ByteArray) (hl : l.length ≤ 64) :
    Calls Try.prog 12 #[.pointer (some ⟨b, 0, none⟩), .string ow] wr fun e w' => e = .returned (.int .i64 ((l.length - (aOthers l ow).length : Nat) : Int)) ∧ M30 w0 w' b m xb Lo (aOthers l ow) R :=
  (drop_any b m l ow wr h.tab (by omega)).mono fun e w' ⟨h1, h2, h3⟩ => ⟨h1, h.own h2 h3⟩
theorem M30.clear (h : M30 w0 wr b m xb Lo l R) :
    Calls Try.prog 17 #[.pointer (some ⟨b, 0, none⟩)] wr fun e w' => e = .returned (.int .i64 l.length) ∧ M30 w0 w' b m xb Lo [] R :=
  (clear_any b m l wr h.tab).mono fun e w' ⟨h1, h2, h3⟩ => ⟨h1, h.own h2 h3⟩
theorem M30.find (h : M30 w0 wr b m xb Lo l R) (ow : ByteArray) (q : Int) :
    Calls Try.prog 10 #[.pointer (some ⟨b, 0, none⟩), .string ow, .int .u64 q] wr fun e w' => e = .returned (.tuple #[.string (aFind l ow q).1, .bool (aFind l ow q).2]) ∧ M30 w0 w' b m xb Lo l R :=
  (find_any b m l ow q wr h.tab).mono fun e w' ⟨h1, h2⟩ => ⟨h1, h.nil' h2⟩
/-- The document's table is changed. -/
theorem M30.own2 {W : World} {X : ATab} (h : ∃ v, Tab wr b m l ∧ RTab wr xb v R ∧ Below w0.heap.size w0 wr ∧ w0.heap.size ≤ b ∧ w0.heap.size ≤ m ∧ w0.heap.size ≤ xb ∧ xb ≠ b ∧ xb ≠ m ∧ (∀ g, v.ownBlock = some g → g ≠ b ∧ g ≠ m ∧ w0.heap.size ≤ g) ∧
    (∀ p, Lo = some p → wr.heap[p.1]? = some p.2 ∧ p.1 ≠ b ∧ p.1 ≠ m ∧ p.1 ≠ xb ∧ v.ownBlock ≠ some p.1) ∧ ∃ w' v' R', W = w' ∧ X = R' ∧ RTab w' xb v' R' ∧ Own [xb] wr w' ∧ ∀ g, v'.ownBlock = some g → v.ownBlock = some g ∨ wr.heap.size ≤ g) : M30 w0 W b m xb Lo l X := by
  obtain ⟨v, h1, h2, h3, h4, h5, h6, h7, h8, h9, h10, w', v', R', rfl, rfl, k1, ho, k3⟩ := h
  have hlt := h1.lt
  have hz := h3.size
  refine ⟨v', h1.own ho (by simpa using Ne.symm h7) (by simpa using Ne.symm h8), k1, h3.trans (ho.below h3.size (by simpa using h6)), h4, h5, h6, h7, h8, fun g hg => ?_, fun p hp => ?_⟩
  · rcases k3 g hg with h | h
    · exact h9 g h
    · refine ⟨?_, ?_, ?_⟩ <;> omega
  · obtain ⟨q1, q2, q3, q4, q5⟩ := h10 p hp
    refine ⟨ho.heap q1 (by simpa using q4), q2, q3, q4, fun e => ?_⟩
    rcases k3 _ e with h | h
    · exact q5 h
    · have := lt_of_heap q1; omega
theorem M30.rset (h : M30 w0 wr b m xb Lo l R) (ow : ByteArray) (a : Option Addr) (L : List Itm) (c : Nat) (hA : ItemsAt w0 a L) (hl : R.length ≤ 64) :
    Calls Try.prog 15 #[.pointer (some ⟨xb, 0, none⟩), .string ow, .slice a L.length c] wr fun e w' => e = .returned (.int .i64 (rSet R ow L).1) ∧ M30 w0 w' b m xb Lo l (rSet R ow L).2 := by
  have hI := hA.below h.below (Nat.le_refl _)
  obtain ⟨v, h1, h2, h3, h4, h5, h6, h7, h8, h9, h10⟩ := h
  refine (rset2_any xb v R ow a L c wr h2 (by omega) hI (fun h0 q hq => ?_)).mono ?_
  · obtain ⟨bb, oo, e, hb, _⟩ := hA.2 h0
    rw [hq] at e
    cases e
    show bb ≠ xb
    omega
  · rintro e w' ⟨rfl, v', k1, k2, k3⟩
    exact ⟨rfl, M30.own2 ⟨v, h1, h2, h3, h4, h5, h6, h7, h8, h9, h10, _, v', _, rfl, rfl, k1, k2, k3⟩⟩
theorem M30.rdrop (h : M30 w0 wr b m xb Lo l R) (ow : ByteArray) (hl : R.length ≤ 64) :
    Calls Try.prog 16 #[.pointer (some ⟨xb, 0, none⟩), .string ow] wr fun e w' => e = .returned (.int .i64 ((R.length : Int) - (aOthers R ow).length)) ∧ M30 w0 w' b m xb Lo l (aOthers R ow) := by
  obtain ⟨v, h1, h2, h3, h4, h5, h6, h7, h8, h9, h10⟩ := h
  refine (rdrop_any xb v R ow wr h2 (by omega)).mono ?_
  rintro e w' ⟨rfl, v', k1, k2, k3⟩
  exact ⟨rfl, M30.own2 ⟨v, h1, h2, h3, h4, h5, h6, h7, h8, h9, h10, _, v', _, rfl, rfl, k1, k2, fun g hg => .inr (k3 g hg)⟩⟩
theorem M30.wipe (h : M30 w0 wr b m xb Lo l R) : M30 w0 (wr.setCell ⟨xb, 0, none⟩ (.slice none 0 0)) b m xb Lo l [] := by
  obtain ⟨v, h1, h2, h3, h4, h5, h6, h7, h8, h9, h10⟩ := h
  exact M30.own2 ⟨v, h1, h2, h3, h4, h5, h6, h7, h8, h9, h10, _, .slice none 0 0, [], rfl, rfl, ⟨heap_setCell_same _ _ _ _ _ _ h2.row, ⟨rfl, .inl ⟨rfl, rfl⟩⟩, by simp [Value.ownBlock]⟩, (Own.refl _ _).setCell (by simp) _, fun g hg => by cases hg⟩
theorem M30.rtry (h : M30 w0 wr b m xb Lo l R) (ow : ByteArray) (a : Option Addr) (L : List Itm) (c : Nat) (hA : ItemsAt w0 a L) (hl : R.length ≤ 64) :
    Calls Try.prog 18 #[.pointer (some ⟨xb, 0, none⟩), .string ow, .slice a L.length c] wr fun e w' => e = .returned (.int .i64 (rTry R ow L)) ∧ M30 w0 w' b m xb Lo l R := by
  have hI := hA.below h.below (Nat.le_refl _)
  have hh := h
  obtain ⟨v, h1, h2, h3, h4, h5, h6, h7, h8, h9, h10⟩ := h
  exact (rtry_any xb v R ow a L c wr h2 (by omega) hI).mono fun e w' ⟨q1, q2⟩ => ⟨q1, hh.nil' q2⟩
theorem M30.rfind (h : M30 w0 wr b m xb Lo l R) (ow : ByteArray) (q : Int) (hl : R.length ≤ 64) :
    Calls Try.prog 20 #[.pointer (some ⟨xb, 0, none⟩), .string ow, .int .u64 q] wr fun e w' => e = .returned (.tuple #[.string (rFind R ow q).1, .bool (rFind R ow q).2]) ∧ M30 w0 w' b m xb Lo l R := by
  have hh := h
  obtain ⟨v, h1, h2, h3, h4, h5, h6, h7, h8, h9, h10⟩ := h
  exact (rfind_any xb v R ow q wr h2 (by omega)).mono fun e w' ⟨q1, q2⟩ => ⟨q1, hh.nil' (q2 ▸ Own.refl _ _)⟩
/-- The document's rows, one by one. -/
theorem M30.rows (h : M30 w0 wr b m xb Lo l R) : ∃ a cap, wr.cell? ⟨xb, 0, none⟩ = some (.slice a R.length cap) ∧ ∀ W, Own [] wr W → W.cell? ⟨xb, 0, none⟩ = some (.slice a R.length cap) ∧ ∀ k, k < R.length → ∃ g, a = some ⟨g, 0, none⟩ ∧
    W.cell? ⟨g, k * 3, none⟩ = some (.int .u64 (rAt R k).1) ∧ W.cell? ⟨g, k * 3 + 1, none⟩ = some (.string (rAt R k).2.1) ∧ W.cell? ⟨g, k * 3 + 2, none⟩ = some (.string (rAt R k).2.2) := by
  obtain ⟨v, h1, h2, h3, h4, h5, h6, h7, h8, h9, h10⟩ := h
  obtain ⟨a, cap, rfl, hrow⟩ := h2.form
  refine ⟨a, cap, cell_of_row wr xb 0 _ _ _ h2.row, fun W ho => ⟨cell_of_row W xb 0 _ _ _ (h2.nil' ho).row, fun k hk => ?_⟩⟩
  obtain ⟨g, rfl, hR⟩ := hrow (by omega)
  exact ⟨g, rfl, row3 (hR.own ho (by simp)) hk⟩
end
set_option maxRecDepth 100000 in
set_option maxHeartbeats 4000000 in
theorem same_any (b m xb : Nat) (v : Value) (l R : ATab) (w : World) (h : Tab w b m l) (hR : RTab w xb v R) (hp : l.Perm R) (hl : l.length ≤ 64) :
    Calls Try.prog 19 #[.pointer (some ⟨b, 0, none⟩), .pointer (some ⟨xb, 0, none⟩)] w fun e w' => e = .returned (.bool true) ∧ Own [] w w' := by
  have cA := Lib.hid (all_u b m l w h (by omega))
  have hrl : R.length = l.length := hp.symm.length_eq
  have cR := Lib.hid fun W (ho : Own [] w W) => rall_any xb v R W (hR.nil' ho) (by omega)
  have cL := Lib.hid fun W (ho : Own [] w W) => len_any b m l W (h.own ho (by simp) (by simp))
  have hul : (uAll R).length = l.length := by rw [uAll_len, hrl]
  have heq : ∀ ks : List Int, ks.Perm (l.map (·.1)) → ks.Pairwise (· ≤ ·) → ks = uAll R := fun ks h1 h2 =>
    sorted_same ((h1.trans (hp.map _)).trans (uAll_perm R).symm) h2 (uAll_sorted R)
  replace heq := Lib.hid heq
  generalize hU : uAll R = U at *
  obtain ⟨N, hN⟩ : ∃ N, l.length = N := ⟨_, rfl⟩
  rw [hN] at cL hul hl
  replace hul := Lib.hid hul
  clear h hR hU hrl hN
  go_enter Try.func19, Try.ntmps19
  go_wp2_with fail
  refine cA.out.mono ?_
  rintro e w1 ⟨va, ks, rfl, hkp, hks, hkr, hO1, _⟩
  obtain rfl := heq.out ks hkp hks
  have cR1 := Lib.hid (cR.out w1 hO1)
  obtain ⟨a1, c1, rfl⟩ := hkr.form
  rw [hul.out] at hkr ⊢
  replace hkr := Lib.hid hkr
  replace hO1 := Lib.hid hO1
  clear cA cR heq hkp hks
  go_wp2_with fail
  refine cR1.out.mono ?_
  rintro e w2 ⟨vb, rfl, hS, hO2⟩
  obtain ⟨a2, c2, rfl⟩ := hS.sl
  have hS2 := hS.reads uL_len
  rw [hul.out] at hS2 ⊢
  have hO12 := hO1.out.trans hO2
  have cL2 := Lib.hid (cL.out w2 hO12)
  have hS1 := hkr.out.nil' hO2
  have hr : Hid (∀ W, Own [] w2 W → ∀ k, k < N → ∃ q, (∃ bb oo, a1 = some ⟨bb, oo, none⟩ ∧ W.cell? ⟨bb, oo + k, none⟩ = some (.int .u64 q)) ∧ ∃ bb oo, a2 = some ⟨bb, oo, none⟩ ∧ W.cell? ⟨bb, oo + k, none⟩ = some (.int .u64 q)) := Lib.hid fun W ho k hk => by
    obtain ⟨q, hq⟩ : ∃ q, ks[k]? = some q := ⟨_, List.getElem?_eq_getElem (by have := hul.out; omega)⟩
    obtain ⟨bb, oo, hab, hc⟩ := (hS1.nil' ho).at_ uL_len (by have := hul.out; omega)
    obtain ⟨bb2, oo2, hab2, hc2⟩ := (hS2.nil' ho).at_ uL_len (by have := hul.out; omega)
    have e := hc k q 0 _ hq rfl
    have e2 := hc2 k q 0 _ hq rfl
    simp only [Nat.mul_one, Nat.add_zero] at e e2
    exact ⟨q, ⟨bb, oo, hab, e⟩, bb2, oo2, hab2, e2⟩
  replace hO12 := Lib.hid hO12
  clear cR1 cL hS hO2 hkr hO1 hS1 hS2
  go_wp2_with (go_at_call 11; (with_reducible refine cL2.out.mono ?_); rintro e w3 ⟨rfl, rfl⟩)
  go_loopg [7] N (fun g s7 wr => ∃ k : Nat, k ≤ N ∧ g = N - k ∧ s7 = .int .i64 k ∧ Aside (Own [] w2 wr))
  case atStart => exact ⟨0, Nat.zero_le _, rfl, rfl, Own.refl _ _⟩
  case round =>
    obtain ⟨k, hk, rfl, rfl, hOr⟩ := hrel
    by_cases hkN : k < N
    · obtain ⟨q, ⟨b1, o1, rfl, d1⟩, b2, o2, rfl, d2⟩ := hr.out wr hOr k hkN
      replace hOr := Lib.hid hOr
      go_wp2_with fail
      go_quiet (fail)
      go_wp2_with fail
      go_roundg (N - (k + 1))
      case measure => omega
      case rel => exact ⟨k + 1, by omega, rfl, by go_num, hOr.out.drewN _⟩
    · obtain rfl : k = N := by omega
      replace hOr := Lib.hid hOr
      go_wp2_with fail
      go_ret
      exact ⟨rfl, hO12.out.trans hOr.out⟩
theorem M30.same {w0 wr : World} {b m xb : Nat} {Lo : Option (Nat × Obj)} {l R : ATab} (h : M30 w0 wr b m xb Lo l R) (hp : l.Perm R) (hl : l.length ≤ 64) :
    Calls Try.prog 19 #[.pointer (some ⟨b, 0, none⟩), .pointer (some ⟨xb, 0, none⟩)] wr fun e w' => e = .returned (.bool true) ∧ M30 w0 w' b m xb Lo l R := by
  have hh := h
  obtain ⟨v, h1, h2, _⟩ := h
  exact (same_any b m xb v l R wr h1 h2 hp hl).mono fun e w' ⟨q1, q2⟩ => ⟨q1, hh.nil' q2⟩
end Go.Proofs.Ytjbmmgclkhigiaa
