/- ItemsTwo: one behind the other. -/
import Derived.Test.YtggcfehghgpjmaaDoorItemsAwake
import Derived.Deep.Upon
namespace Go.Proofs.YtggcfehghgpjmaaDoor
open Go.RowKit

/-! ### plain -/
theorem updGo_cons (F : Int → ByteArray × Bool) (m : Met) (r : List Met) (out : List Itm) : updGo F (m :: r) out = if (nameOf F m).1 = 1 then (match itIdx out (nameOf F m).2 with
    | some i => updGo F r (out.set i (updItm (itAt out i) m))
    | none => (7, [])) else ((nameOf F m).1, []) := rfl
theorem updGo_app (F : Int → ByteArray × Bool) : ∀ (A B : List Met) (L N : List Itm), updGo F A L = (1, N) → updGo F (A ++ B) L = updGo F B N
  | [], B, L, N, h => by
    simp only [updGo, Prod.mk.injEq, true_and] at h
    subst h
    rfl
  | m :: r, B, L, N, h => by
    rw [List.cons_append, updGo_cons]
    rw [updGo_cons] at h
    by_cases h1 : (nameOf F m).1 = 1
    · rw [if_pos h1] at h ⊢
      cases hi : itIdx L (nameOf F m).2 with
      | none => rw [hi] at h; simp at h
      | some i =>
        rw [hi] at h
        exact updGo_app F r B _ N h
    · rw [if_neg h1] at h
      simp only [Prod.mk.injEq] at h
      exact absurd h.1 h1
theorem updGo_len (F : Int → ByteArray × Bool) : ∀ (M : List Met) (out : List Itm), (updGo F M out).2.length ≤ out.length
  | [], out => by simp [updGo]
  | m :: r, out => by
    rw [updGo_cons]
    split
    · cases itIdx out (nameOf F m).2 with
      | none => simp
      | some i =>
        have := updGo_len F r (out.set i (updItm (itAt out i) m))
        simpa using this
    · simp

/-! ### metrics appended -/
theorem metInfo : (Tryd.prog.info? 32).map (fun i => (i.zero, i.size, i.bytes)) = some (some Met.zero.val, 15, 176) := by kernel_rfl
theorem metRow_one (l : List Met) : ∀ u ∈ rowOf Met.cells l, u.oneCell' = true := by
  intro u hu
  simp only [rowOf, List.mem_flatMap] at hu
  obtain ⟨x, _, hx⟩ := hu
  simp [Met.cells] at hx
  rcases hx with rfl | rfl | rfl | rfl | rfl | rfl | rfl | rfl | rfl | rfl | rfl | rfl | rfl | rfl | rfl <;> rfl
/-- A row of metrics of the call's own. -/
structure MetOut (B : Nat) (w : World) (g cap : Nat) (L : List Met) : Prop where
  row : Row 32 Met.cells 15 w g cap L
  fresh : B ≤ g
  good : ∀ x ∈ L, x.wf
theorem app_mets {w w1 : World} {g c1 : Nat} {X : List Met} (h : MetOut w.heap.size w1 g c1 X) (hO : Own [] w w1) (a : Option Addr) (M : List Met) (cap : Nat) (hM : MetsAt w1 a M) (hb : (X.length + M.length) * 176 ≤ 140737488351232) :
    ∃ g2 c2 w2, (Builtin.append_ #[22, 22] 22 #[.slice (some ⟨g, 0, none⟩) X.length c1, .slice a M.length cap]).run Tryd.prog w1 = .ok (.slice (some ⟨g2, 0, none⟩) (X ++ M).length c2) w2 ∧
      MetOut w.heap.size w2 g2 c2 (X ++ M) ∧ Own [] w w2 := by
  obtain ⟨i0, hi, hz0, hz1, hz2⟩ := info_parts metInfo
  cases a with
  | none =>
    have h0 : M = [] := by
      cases M with
      | nil => rfl
      | cons x r => obtain ⟨b, o, e, _⟩ := hM.2 (by simp); cases e
    subst h0
    have hle : X.length ≤ c1 := by obtain ⟨cur, _, h1, _⟩ := h.row; exact h1
    refine ⟨g, c1, w1, ?_, by simpa using h, hO⟩
    rw [List.append_nil]
    exact run_append_nothing _ _ _ _ _ i0 Tryd.underlying22 hi _ _ _ hle _ (Src.ofNil _ Tryd.underlying22 cap)
  | some ad =>
    have hown := h.row.owns Met.cells_len
    obtain ⟨v', w2, hr, h2, h3, h4, h5⟩ := run_append_own_at (P := Tryd.prog) _ 0 22 22 32 i0 _ 15 176 Tryd.underlying22 hi hz0 hz1 hz2 rfl (by omega) _ X.length (rowOf Met.cells X) hown ad M.length cap (rowOf Met.cells M) (rowOf_len Met.cells_len M) (RowsAt.flat Met.cells_len hM) (metRow_one M) (by unfold maxLen; omega) (by omega) (Nat.zero_le _)
    rw [← rowOf_append] at h2
    have hl : X.length + M.length = (X ++ M).length := by simp
    obtain ⟨g2, c2, he, hR⟩ := owned_row h2 hl (fun e => by have := (h4.1 e).1; simp at this)
    subst he
    have hs := hO.size
    refine ⟨g2, c2, w2, hr, ⟨hR, ?_, ?_⟩, hO.trans' (grown_row h3) (by intro z hz; right; simp [Value.ownBlock] at hz; subst hz; exact h.fresh)⟩
    · have := h.fresh
      simp [Value.ownBlock] at h5
      omega
    · intro y hy
      rcases List.mem_append.1 hy with h6 | h6
      · exact h.good y h6
      · exact hM.all_good y h6
theorem wpList_append_of {P : Program} {ops : Array Oper} {rest : List Oper} {o : Oper} {a : Act} {w w' : World} {Q : Exit → Act → World → Prop} (hgd : o.guard = none) (s x : Operand) (t tx ty : TypeId) (hty : o.type = ty)
    (ho : o.op = .call { callee := .builtin .append, args := #[s, x], argTypes := #[t, tx] }) {vs vx v : Value} (hs : a.eval s = vs) (hx : a.eval x = vx) (hr : (Builtin.append_ #[t, tx] ty #[vs, vx]).run P w = .ok v w')
    (h : wpList P ops Q rest (a.put o.dst v) w') : wpList P ops Q (o :: rest) a w := by
  subst hty
  refine wpList_plain hgd fun K hK => ?_
  unfold Oper.wp execOp
  simp only [ho, resolve, invoke, builtin, Sem.run_bind, Sem.run_pure, Result.andThen_ok, List.map_toArray, List.map_cons, List.map_nil, hs, hx, hr]
  exact hK _ _ h

set_option maxRecDepth 100000 in
set_option maxHeartbeats 16000000 in
theorem itemsTwo_walk (a0 : Option Addr) (L0 : List Met) (c0 : Nat) (aa : Option Addr) (A : List Met) (ca : Nat) (ab : Option Addr) (B : List Met) (cb : Nat) (w : World) (h0 : MetsAt w a0 L0) (hA : MetsAt w aa A) (hB : MetsAt w ab B) (hbd : A.length + B.length ≤ 3000000) (hE : Errs w) :
    Calls Tryd.prog 5 #[.slice a0 L0.length c0, .slice aa A.length ca, .slice ab B.length cb] w fun e w' => e = .returned (.bool true) ∧ Below w.heap.size w w' := by
  have B1 := bornp_any a0 L0 c0 w h0 hE
  have hle := bornL_le L0
  generalize bornL L0 = r at B1 hle
  obtain ⟨rc, L⟩ := r
  unfold Born2Post at B1
  simp only at B1 hle
  replace B1 := Lib.hid B1
  replace hE := Lib.hid hE
  replace hA := Lib.hid hA
  replace hB := Lib.hid hB
  clear h0
  go_enter Tryd.func5, Tryd.ntmps5
  go_wp2_with fail
  refine B1.out.mono ?_
  rintro e w1 ⟨a1, c1, rfl, hR1, hO1⟩
  have AW1 := awake_any w1 (hE.out.nil hO1)
  replace AW1 := Lib.hid AW1
  replace hR1 := Lib.hid hR1
  replace hO1 := Lib.hid hO1
  clear B1
  by_cases hrc : rc = 1
  · have hrc1 : ((rc : Int) != 1) = false := by simpa using hrc
    clear hrc AW1
    go_wp2_with fail
    refine (new_any _).mono ?_
    rintro e w2 ⟨tb, tm, rfl, hT, _, _, hO2⟩
    have hR2 := hR1.out.nil' hO2
    have hO3 := hO1.out.trans hO2
    have U := updp_any a1 L c1 aa A ca tb tm [] ⟨#[]⟩ w2 (hR2.at_ (by omega)) (hA.out.nil' hO3) hT (by omega) (hE.out.nil hO3)
    have happ := updGo_app (aFind [] ⟨#[]⟩) A B L
    have hlen := updGo_len (aFind [] ⟨#[]⟩) A L
    generalize updGo (aFind [] ⟨#[]⟩) A L = r2 at U happ hlen
    obtain ⟨rd, N⟩ := r2
    unfold Born2Post at U
    simp only at U hlen
    replace U := Lib.hid U
    replace happ := Lib.hid happ
    replace hR2 := Lib.hid hR2
    replace hO3 := Lib.hid hO3
    clear hT hO2 hR1 hO1
    go_wp2_with fail
    refine U.out.mono ?_
    rintro e w3 ⟨a3, c3, rfl, hN3, hO4⟩
    have hR3 := hR2.out.nil' hO4
    have hO5 := hO3.out.trans hO4
    have AW3 := awake_any w3 (hE.out.nil hO5)
    replace AW3 := Lib.hid AW3
    replace hR3 := Lib.hid hR3
    replace hN3 := Lib.hid hN3
    replace hO5 := Lib.hid hO5
    clear U hR2 hO3 hO4
    by_cases hrd : rd = 1
    · have hrd1 : ((rd : Int) != 1) = false := by simpa using hrd
      have happ2 : updGo (aFind [] ⟨#[]⟩) (A ++ B) L = updGo (aFind [] ⟨#[]⟩) B N := happ.out N (by rw [hrd])
      have hlen2 := updGo_len (aFind [] ⟨#[]⟩) B N
      replace happ2 := Lib.hid happ2
      clear hrd AW3 happ
      go_wp2_with fail
      refine (new_any _).mono ?_
      rintro e w4 ⟨tb4, tm4, rfl, hT4, _, _, hO6⟩
      have hO7 := hO5.out.trans hO6
      have U2 := updp_any a3 N c3 ab B cb tb4 tm4 [] ⟨#[]⟩ w4 ((hN3.out.nil' hO6).at_ (by omega)) (hB.out.nil' hO7) hT4 (by omega) (hE.out.nil hO7)
      have hR4 := hR3.out.nil' hO6
      generalize hre : updGo (aFind [] ⟨#[]⟩) B N = r3 at U2 hlen2
      replace hre := Lib.hid hre
      obtain ⟨re, X⟩ := r3
      unfold Born2Post at U2
      simp only at U2 hlen2
      replace U2 := Lib.hid U2
      replace hR4 := Lib.hid hR4
      replace hO7 := Lib.hid hO7
      clear hT4 hO6 hR3 hO5 hN3
      go_wp2_with fail
      refine U2.out.mono ?_
      rintro e w5 ⟨a5, c5, rfl, hX5, hO8⟩
      have hO9 := hO7.out.trans hO8
      have hR5 := hR4.out.nil' hO8
      -- the two appends
      have hM0 : MetOut w5.heap.size (w5.alloc (.cells #[] 32)) w5.heap.size 0 [] :=
        ⟨⟨#[], heap_alloc_new _ _, by simp, by unfold maxLen; omega, by simp, by simp [rowOf]⟩, Nat.le_refl _, by simp⟩
      have hOm0 : Own [] w5 (w5.alloc (.cells #[] 32)) := (Own.refl _ _).alloc _
      obtain ⟨g6, c6, w6, hap6, hM6, hO6⟩ := app_mets hM0 hOm0 aa A ca (hA.out.nil' (hO9.trans hOm0)) (by simp; omega)
      rw [List.nil_append] at hap6 hM6
      obtain ⟨g7, c7, w7, hap7, hM7, hO7b⟩ := app_mets hM6 hO6 ab B cb (hB.out.nil' (hO9.trans hO6)) (by omega)
      have hX7 := hX5.nil' hO7b
      have hR7 := hR5.nil' hO7b
      have hO10 := hO9.trans hO7b
      have hMAB := RowsAt.of_row (good := Met.wf) hM7.row Met.cells_len (by simp; omega) hM7.good
      have hlAB : (A ++ B).length = A.length + B.length := by simp
      rw [hlAB] at hap7
      replace hlAB := Lib.hid hlAB
      replace hap6 := Lib.hid hap6
      replace hap7 := Lib.hid hap7
      replace hX7 := Lib.hid hX7
      replace hR7 := Lib.hid hR7
      replace hO10 := Lib.hid hO10
      replace hMAB := Lib.hid hMAB
      clear hM6 hM7 hO6 hO7b hX5 hR5 hO9 hO8 hM0 hOm0 U2 hR4 hO7
      go_wp2_with (first
        | (at_builtin; refine wpList_append_of rfl (.tmp 42) (.tmp 43) 22 22 22 rfl rfl rfl rfl hap6.out ?_)
        | (at_builtin; refine wpList_append_of rfl (.tmp 44) (.tmp 45) 22 22 22 rfl rfl rfl rfl hap7.out ?_))
      refine (new_any _).mono ?_
      rintro e w8 ⟨tb8, tm8, rfl, hT8, _, _, hO11⟩
      have hO12 := hO10.out.trans hO11
      have U3 := updp_any a1 L c1 (some ⟨g7, 0, none⟩) (A ++ B) c7 tb8 tm8 [] ⟨#[]⟩ w8 ((hR7.out.nil' hO11).at_ (by omega)) (hMAB.out.nil' hO11) hT8 (by omega) (hE.out.nil hO12)
      rw [happ2.out, hre.out, hlAB.out] at U3
      unfold Born2Post at U3
      simp only at U3
      have hX8 := hX7.out.nil' hO11
      replace U3 := Lib.hid U3
      replace hX8 := Lib.hid hX8
      replace hO12 := Lib.hid hO12
      clear hT8 hO11 hR7 hMAB hX7 hO10 hap6 hap7
      go_wp2_with fail
      (with_reducible refine U3.out.mono ?_)
      rintro e w9 ⟨a9, c9, rfl, hY9, hO13⟩
      have hX9 := hX8.out.nil' hO13
      have hO14 := hO12.out.trans hO13
      have S1 := same_any a5 X c5 a9 X c9 w9 (hX9.at_ (by omega)) (hY9.at_ (by omega))
      have S2 := fun w10 (ho : Own [] w9 w10) => same_any a9 X c9 a5 X c5 w10 ((hY9.nil' ho).at_ (by omega)) ((hX9.nil' ho).at_ (by omega))
      rw [itSame_refl] at S1 S2
      have AW := fun w10 (ho : Own [] w9 w10) => awake_any w10 (hE.out.nil (hO14.trans ho))
      replace S1 := Lib.hid S1
      replace S2 := Lib.hid S2
      replace AW := Lib.hid AW
      replace hO14 := Lib.hid hO14
      clear hX9 hY9 hO13 hO12 hX8 U3
      go_wp2_with fail
      (with_reducible refine S1.out.mono ?_)
      rintro e w10 ⟨rfl, hp1⟩
      replace hp1 := Lib.hid hp1
      go_wp2_with fail
      (with_reducible refine (S2.out _ hp1.out).mono ?_)
      rintro e w11 ⟨rfl, hp2⟩
      replace hp2 := Lib.hid (hp1.out.trans hp2)
      go_wp2_with fail
      refine (AW.out _ hp2.out).mono ?_
      rintro e w12 ⟨rfl, hp3⟩
      replace hp3 := Lib.hid (hO14.out.trans (hp2.out.trans hp3))
      go_wp2_with fail
      go_ret
      exact ⟨rfl, hp3.out.below (Nat.le_refl _) (by simp)⟩
    · have hrd1 : ((rd : Int) != 1) = true := by simpa using hrd
      clear hrd happ
      go_wp2_with fail
      refine AW3.out.mono ?_
      rintro e w5 ⟨rfl, hO9⟩
      replace hO9 := Lib.hid (hO5.out.trans hO9)
      go_wp2_with fail
      go_ret
      exact ⟨rfl, hO9.out.below (Nat.le_refl _) (by simp)⟩
  · have hrc1 : ((rc : Int) != 1) = true := by simpa using hrc
    clear hrc
    go_wp2_with fail
    refine AW1.out.mono ?_
    rintro e w2 ⟨rfl, hO2⟩
    replace hO2 := Lib.hid (hO1.out.trans hO2)
    go_wp2_with fail
    go_ret
    exact ⟨rfl, hO2.out.below (Nat.le_refl _) (by simp)⟩
theorem itemsTwo_walkU (a0 : Option Addr) (L0 : List Met) (c0 : Nat) (aa : Option Addr) (A : List Met) (ca : Nat) (ab : Option Addr) (B : List Met) (cb : Nat) (w : World) (h0 : MetsAt w a0 L0) (_u0 : L0.length ≤ 1048576) (hA : MetsAt w aa A) (uA : A.length ≤ 1048576) (hB : MetsAt w ab B) (uB : B.length ≤ 1048576) (hE : Errs w) :
    Calls Tryd.prog 5 #[.slice a0 L0.length c0, .slice aa A.length ca, .slice ab B.length cb] w fun e w' => e = .returned (.bool true) ∧ Below w.heap.size w w' :=
  itemsTwo_walk a0 L0 c0 aa A ca ab B cb w h0 hA hB (by omega) hE
end Go.Proofs.YtggcfehghgpjmaaDoor
