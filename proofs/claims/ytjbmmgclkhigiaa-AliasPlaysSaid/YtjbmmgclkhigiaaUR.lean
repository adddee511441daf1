/- The document's All (crierref30): all aliases, sorted. -/
import Derived.Test.YtjbmmgclkhigiaaUA
import Derived.Test.YtjbmmgclkhigiaaAliasRefAll
set_option linter.unusedSimpArgs false
set_option linter.unusedVariables false
namespace Go.Proofs.Ytjbmmgclkhigiaa
open Go.RowKit

/-! ### plain -/
def uPos : List Int → Int → Nat
  | [], _ => 0
  | y :: r, x => if y < x then uPos r x + 1 else 0
def uIns (l : List Int) (x : Int) : List Int := l.take (uPos l x) ++ [x] ++ l.drop (uPos l x)
def uAll (R : ATab) : List Int := R.foldl (fun l p => uIns l p.1) []
theorem uPos_le (l : List Int) (x : Int) : uPos l x ≤ l.length := by
  induction l with
  | nil => simp [uPos]
  | cons y r ih => unfold uPos; split <;> simp <;> omega
theorem uPos_lt {l : List Int} {x : Int} {j : Nat} {y : Int} (hj : j < uPos l x) (hy : l[j]? = some y) : y < x := by
  induction l generalizing j with
  | nil => simp [uPos] at hj
  | cons z r ih =>
    unfold uPos at hj
    split at hj
    · cases j with
      | zero => simp at hy; omega
      | succ j => exact ih (j := j) (by omega) (by simpa using hy)
    · omega
theorem uPos_at {l : List Int} {x y : Int} (hy : l[uPos l x]? = some y) : ¬ y < x := by
  induction l with
  | nil => simp at hy
  | cons z r ih =>
    unfold uPos at hy
    split at hy
    · exact ih (by simpa using hy)
    · simp at hy; omega
theorem uIns_perm (l : List Int) (x : Int) : (uIns l x).Perm (x :: l) := by
  unfold uIns
  rw [List.append_assoc]
  refine List.perm_middle.trans ?_
  simp
theorem uIns_sorted {l : List Int} (h : l.Pairwise (· ≤ ·)) (x : Int) : (uIns l x).Pairwise (· ≤ ·) := by
  induction l with
  | nil => simp [uIns, uPos]
  | cons z r ih =>
    obtain ⟨h1, h2⟩ := List.pairwise_cons.1 h
    unfold uIns uPos
    by_cases hz : z < x
    · rw [if_pos hz]
      simp only [List.take_succ_cons, List.drop_succ_cons, List.cons_append]
      refine List.pairwise_cons.2 ⟨fun y hy => ?_, ih h2⟩
      have hm : y ∈ uIns r x := hy
      rcases List.mem_cons.1 ((uIns_perm r x).mem_iff.1 hm) with rfl | hm
      · omega
      · exact h1 y hm
    · rw [if_neg hz]
      simp only [List.take_zero, List.drop_zero, List.nil_append, List.cons_append]
      refine List.pairwise_cons.2 ⟨fun y hy => ?_, h⟩
      rcases List.mem_cons.1 hy with rfl | hm
      · omega
      · have := h1 y hm; omega
theorem uAll_snoc {R : ATab} {i : Nat} (h : i < R.length) : uAll (R.take (i + 1)) = uIns (uAll (R.take i)) (rAt R i).1 := by
  unfold uAll
  rw [List.take_add_one, rAt_get h]
  simp
theorem fold_perm : ∀ (R : ATab) (acc : List Int), (R.foldl (fun l p => uIns l p.1) acc).Perm (acc ++ R.map (·.1))
  | [], acc => by simp
  | p :: R, acc => by
    simp only [List.foldl_cons, List.map_cons]
    refine (fold_perm R (uIns acc p.1)).trans ?_
    refine ((uIns_perm acc p.1).append_right _).trans ?_
    simpa using (List.perm_middle (l₁ := acc) (a := p.1) (l₂ := R.map (·.1))).symm
theorem uAll_perm (R : ATab) : (uAll R).Perm (R.map (·.1)) := by
  show (R.foldl (fun l p => uIns l p.1) []).Perm _
  simpa using fold_perm R []
theorem fold_sorted : ∀ (R : ATab) (acc : List Int), acc.Pairwise (· ≤ ·) → (R.foldl (fun l p => uIns l p.1) acc).Pairwise (· ≤ ·)
  | [], acc, h => h
  | p :: R, acc, h => fold_sorted R _ (uIns_sorted h p.1)
theorem uAll_sorted (R : ATab) : (uAll R).Pairwise (· ≤ ·) := fold_sorted R [] List.Pairwise.nil
theorem uAll_len (R : ATab) : (uAll R).length = R.length := by have := (uAll_perm R).length_eq; simpa using this
/-- Sorted lists of the same. -/
theorem sorted_same {a b : List Int} (hp : a.Perm b) (ha : a.Pairwise (· ≤ ·)) (hb : b.Pairwise (· ≤ ·)) : a = b :=
  List.Perm.eq_of_pairwise (le := (· ≤ ·)) (fun x y _ _ h1 h2 => by omega) ha hb hp

/-! ### in memory -/
set_option maxRecDepth 100000 in
set_option maxHeartbeats 16000000 in
theorem rall_any (xb : Nat) (v : Value) (R : ATab) (w : World) (h : RTab w xb v R) (hl : R.length ≤ 1000000) :
    Calls Try.prog 26 #[.pointer (some ⟨xb, 0, none⟩)] w fun e w' => ∃ v', e = .returned v' ∧ Sl 23 uL 1 w.heap.size w' v' (uAll R) ∧ Own [] w w' := by
  obtain ⟨a, cap, rfl, hrow⟩ := h.form
  have hK1 : ∀ w', Own [] w w' → w'.cell? ⟨xb, 0, none⟩ = some (.slice a R.length cap) := fun w' ho => cell_of_row w' xb 0 _ _ _ (h.nil' ho).row
  have hC : ∀ i w', i < R.length → Own [] w w' → ∃ g, a = some ⟨g, 0, none⟩ ∧ w'.cell? ⟨g, i * 3, none⟩ = some (.int .u64 (rAt R i).1) := fun i w' hi ho => by
    obtain ⟨g, hg, hr⟩ := hrow (by omega)
    exact ⟨g, hg, (row3 (hr.own ho (by simp)) hi).1⟩
  obtain ⟨N, hN⟩ : ∃ N, R.length = N := ⟨_, rfl⟩
  rw [hN] at hl hK1 hC
  replace hN := Lib.hid hN
  replace hK1 := Lib.hid hK1
  replace hC := Lib.hid hC
  have hE := Lib.hid (fun W => (Sl.empty (enc := uL) (k := 1) 23 W))
  have k0 := hK1.out w (Own.refl _ _)
  clear h hrow
  go_enter Try.func26, Try.ntmps26
  go_wp2_with fail
  go_loopg [3, 4, 5, 6] N (fun g s3 s4 s5 s6 wr => ∃ (i m c1 : Nat) (a1 : Option Addr) (T : List Int), s4 = .int .i64 i ∧ s3 = .slice a1 m c1 ∧ i ≤ N ∧ g = N - i ∧ m ≤ i ∧ Aside (T = uAll (R.take i) ∧ T.length = m ∧ Sl 23 uL 1 w.heap.size wr (.slice a1 m c1) T ∧ Own [] w wr))
  case atStart => exact ⟨0, 0, 0, none, [], rfl, rfl, by omega, rfl, by omega, rfl, rfl, Sl.nil _ _ _, Own.refl _ _⟩
  case round =>
    obtain ⟨i, m, c1, a1, T, rfl, rfl, hi, rfl, hm, hT, hTm, hSl, hO⟩ := hrel
    clear k0
    have kx := hK1.out _ hO
    obtain ⟨w5, h5⟩ : ∃ W : World, W = wr := ⟨_, rfl⟩
    subst h5
    by_cases hiN : i < N
    · have i1 : (i : Int) < N := by omega
      obtain ⟨X, hX⟩ : ∃ X, X = (rAt R i).1 := ⟨_, rfl⟩
      obtain ⟨K, hK⟩ : ∃ K, K = uPos T X := ⟨_, rfl⟩
      have hKm : K ≤ m := by rw [hK, ← hTm]; exact uPos_le _ _
      have hKlt : ∀ j, j < K → ∃ b o y, a1 = some ⟨b, o, none⟩ ∧ y < X ∧ ∀ W, Own [] w5 W → W.cell? ⟨b, o + j, none⟩ = some (.int .u64 y) := fun j hj => by
        obtain ⟨y, hy⟩ : ∃ y, T[j]? = some y := ⟨_, List.getElem?_eq_getElem (by omega)⟩
        obtain ⟨b, o, hab, hc⟩ := (hSl.reads uL_len).at_ uL_len (by omega)
        refine ⟨b, o, y, hab, uPos_lt (by rw [← hK]; exact hj) hy, fun W ho => ?_⟩
        have e := hc j y 0 _ hy rfl
        simp only [Nat.mul_one, Nat.add_zero] at e
        exact (ho.cell (block_lt_of_cell e) (by simp)).trans e
      have hKat : K < m → ∃ b o y, a1 = some ⟨b, o, none⟩ ∧ ¬ y < X ∧ ∀ W, Own [] w5 W → W.cell? ⟨b, o + K, none⟩ = some (.int .u64 y) := fun hj => by
        obtain ⟨y, hy⟩ : ∃ y, T[K]? = some y := ⟨_, List.getElem?_eq_getElem (by omega)⟩
        obtain ⟨b, o, hab, hc⟩ := (hSl.reads uL_len).at_ uL_len (by omega)
        refine ⟨b, o, y, hab, uPos_at (by rw [← hK]; exact hy), fun W ho => ?_⟩
        have e := hc K y 0 _ hy rfl
        simp only [Nat.mul_one, Nat.add_zero] at e
        exact (ho.cell (block_lt_of_cell e) (by simp)).trans e
      obtain ⟨g, hag, cX⟩ := hC.out i w5 hiN hO
      rw [← hX] at cX
      subst hag
      obtain ⟨v1, hs1, hr1, hb1⟩ := hSl.take uElem (i := K) (by omega)
      obtain ⟨v2, hs2, hr2, hb2⟩ := hSl.drop uElem (i := K) (by omega)
      have hnew : Aside (uAll (R.take (i + 1)) = T.take K ++ [X] ++ T.drop K) := by
        show _ = _
        rw [uAll_snoc (by have := hN.out; omega), ← hT, ← hX, hK]
        rfl
      have hlk : (T.take K).length = K := by rw [List.length_take]; omega
      have hld : (T.drop K).length = m - K := by rw [List.length_drop]; omega
      have cXw : Aside (∀ W, Own [] w5 W → W.cell? ⟨g, i * 3, none⟩ = some (.int .u64 X)) := fun W ho => (ho.cell (block_lt_of_cell cX) (by simp)).trans cX
      have kxw : Aside (∀ W, Own [] w5 W → W.cell? ⟨xb, 0, none⟩ = some (.slice (some ⟨g, 0, none⟩) N cap)) := fun W ho => hK1.out W (hO.trans ho)
      generalize hL1 : T.take K = L1 at *
      generalize hL2 : T.drop K = L2 at *
      replace hKlt := Lib.hid hKlt
      replace hKat := Lib.hid hKat
      replace hs1 := Lib.hid hs1
      replace hs2 := Lib.hid hs2
      replace hr1 := Lib.hid hr1
      replace hr2 := Lib.hid hr2
      replace hlk := Lib.hid hlk
      replace hld := Lib.hid hld
      replace hO := Lib.hid hO
      clear hT hTm hSl hX hK hb1 hb2 hL1 hL2 cX
      go_upto_block 2 with fail
      go_cut [5] from 7 to 58 (fun s5 wx => s5 = .int .i64 K ∧ Aside (Own [] w5 wx))
      case first =>
        go_wp2_with fail
        go_loopg [5] K (fun k s5 wx => ∃ j : Nat, s5 = .int .i64 j ∧ j ≤ K ∧ k = K - j ∧ Aside (Own [] w5 wx))
        case atStart => exact ⟨0, rfl, Nat.zero_le _, rfl, Own.refl _ _⟩
        case round =>
          obtain ⟨j, rfl, hj, rfl, hOx⟩ := hrel
          clear kx
          have kx := kxw.out _ hOx.out
          have cX := cXw.out _ hOx.out
          by_cases hjK : j < K
          · obtain ⟨b, o, y, rfl, hy, cy⟩ := hKlt.out j hjK
            have cy := cy _ hOx.out
            have hjm : j < m := by omega
            have hyd : decide (y < X) = true := decide_eq_true hy
            go_wp2_with fail
            go_big_quiet (fail)
            go_wp2_with fail
            go_roundg (K - (j + 1))
            case measure => omega
            case rel => exact ⟨j + 1, by go_num, by omega, rfl, hOx.out.drewN _⟩
          · obtain rfl : j = K := by omega
            by_cases hjm : j < m
            · obtain ⟨b, o, y, rfl, hy, cy⟩ := hKat.out hjm
              have cy := cy _ hOx.out
              have hyd : decide (y < X) = false := decide_eq_false (by omega)
              go_wp2_with fail
              go_big_quiet (fail)
              go_wp2_with fail
              go_meet
              case rel => exact ⟨rfl, hOx.out.drewN _⟩
            · have hjz : decide ((j : Int) < (m : Int)) = false := decide_eq_false (by omega)
              go_wp2_with fail
              go_big_quiet (fail)
              go_wp2_with fail
              go_meet
              case rel => exact ⟨rfl, hOx.out.drewN _⟩
      case rest =>
        obtain ⟨rfl, hOx⟩ := hcut
        clear kx
        have hOe := hOx.out.alloc (.cells #[] 23)
        have hsl := (hE.out wc).mono (base' := w5.heap.size) hOx.out.size
        have hr1' := hr1.out.nil' hOe
        have lk := hlk.out
        have ld := hld.out
        have hl1 := Lib.hid (show (([] : List Int).length + L1.length) * 8 ≤ 140737488355328 by simp only [List.length_nil]; omega)
        have hl2 := Lib.hid (show ([] : List Int).length + L1.length ≤ maxLen by unfold maxLen; simp only [List.length_nil]; omega)
        have hl3 := Lib.hid (show (([] ++ L1 : List Int).length + [X].length) * 8 ≤ 140737488355328 by simp only [List.nil_append, List.length_singleton]; omega)
        have hl4 := Lib.hid (show ([] ++ L1 : List Int).length + [X].length ≤ maxLen by unfold maxLen; simp only [List.nil_append, List.length_singleton]; omega)
        have hl5 := Lib.hid (show (([] ++ L1 ++ [X] : List Int).length + L2.length) * 8 ≤ 140737488355328 by simp only [List.nil_append, List.length_append, List.length_singleton]; omega)
        have hl6 := Lib.hid (show ([] ++ L1 ++ [X] : List Int).length + L2.length ≤ maxLen by unfold maxLen; simp only [List.nil_append, List.length_append, List.length_singleton]; omega)
        have hl7 : ([] ++ L1 ++ [X] ++ L2 : List Int).length = m + 1 := by simp only [List.nil_append, List.length_append, List.length_singleton]; omega
        replace hl7 := Lib.hid hl7
        clear lk ld
        replace hOe := Lib.hid hOe
        replace hsl := Lib.hid hsl
        replace hr1' := Lib.hid hr1'
        go_wp2_with (first
          | (refine wpList_slice_of (o := ⟨some 40, _, _, _, _, _⟩) rfl _ _ _ _ _ rfl rfl rfl rfl rfl hs1.out ?_)
          | (at_builtin; refine wpList_append_new rfl (.tmp 37) (.tmp 40) rfl uElem hOe.out rfl hsl.out rfl hr1'.out hl1.out hl2.out ?_; intro va wa hSa hOa _ _; have ka := kxw.out _ hOa; have ca := cXw.out _ hOa; have hOb := Lib.hid (hOa.alloc (.cells #[.int .u64 X] 23)); have hSb := Lib.hid (hSa.nil' ((Own.refl [] wa).alloc (.cells #[.int .u64 X] 23))); have hRb := Lib.hid (Reads.new (enc := uL) (T := 23) wa X 1); clear hSa hOa)
          | (at_builtin; refine wpList_append_new rfl (.tmp 42) (.tmp 51) rfl uElem hOb.out rfl hSb.out rfl hRb.out hl3.out hl4.out ?_; intro vb wb hSc hOc _ _; have hr2' := Lib.hid (hr2.out.nil' hOc); replace hOc := Lib.hid hOc; replace hSc := Lib.hid hSc; clear hSb hRb hOb)
          | (refine wpList_slice_of (o := ⟨some 56, _, _, _, _, _⟩) rfl _ _ _ _ _ rfl rfl rfl rfl rfl hs2.out ?_)
          | (at_builtin; refine wpList_append_new rfl (.tmp 53) (.tmp 56) rfl uElem hOc.out rfl hSc.out rfl hr2'.out hl5.out hl6.out ?_; intro vd wd hSd hOd _ _; obtain ⟨ad, cd, rfl⟩ := hSd.sl; rw [hl7.out] at hSd ⊢; replace hOd := Lib.hid hOd; replace hSd := Lib.hid hSd))
        go_roundg (N - (i + 1))
        case measure => omega
        case rel => exact ⟨i + 1, m + 1, cd, ad, _, by go_num, rfl, by omega, rfl, by omega, by rw [hnew.out]; rfl, hl7.out, hSd.out.mono hO.out.size, hO.out.trans hOd.out⟩
    · have i1 : ¬ (i : Int) < N := by omega
      have hfull : R.take i = R := List.take_of_length_le (by have := hN.out; omega)
      rw [hfull] at hT
      subst hT
      replace hSl := Lib.hid hSl
      replace hO := Lib.hid hO
      clear hTm hfull
      go_wp2_with fail
      go_ret
      exact ⟨_, rfl, hSl.out, hO.out⟩
end Go.Proofs.Ytjbmmgclkhigiaa
