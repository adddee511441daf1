/- TrieWants: somebody is told for a name just if one of its filters wants it, with the greatest QoS of these. -/
import Derived.Test.YtamclcdcpaiojaaDoorTrieActs
namespace Go.Proofs.YtamclcdcpaiojaaDoor
open Go.RowKit Go.Lib Go.Shelf Go.Sort

def mStep (nm : ByteArray) (m : Int) (p : ByteArray × Int) : Int := if mMatch p.1 nm then max m p.2 else m
def mOf (nm : ByteArray) (R : List (ByteArray × Int)) : Int := R.foldl (mStep nm) (-1)
def tStep (i : Nat) (m : Int) (p : Int × Int) : Int := if p.1 = i then p.2 else m
def tOld (i : Nat) (hs : List (Int × Int)) : Int := hs.foldl (tStep i) (-1)
theorem mOf_step {nm : ByteArray} {R : List (ByteArray × Int)} {j : Nat} {x : ByteArray × Int} (h : R[j]? = some x) : mOf nm (R.take (j + 1)) = mStep nm (mOf nm (R.take j)) x := by
  unfold mOf
  rw [List.take_add_one, h]
  simp
theorem tOld_step {i : Nat} {R : List (Int × Int)} {j : Nat} {x : Int × Int} (h : R[j]? = some x) : tOld i (R.take (j + 1)) = tStep i (tOld i (R.take j)) x := by
  unfold tOld
  rw [List.take_add_one, h]
  simp
theorem snocI {α : Type} {p : List α → Prop} (l : List α) (h0 : p []) (h1 : ∀ l x, p l → p (l ++ [x])) : p l := by
  have : ∀ n, ∀ l : List α, l.length = n → p l := by
    intro n
    induction n with
    | zero => intro l hl; rw [List.length_eq_zero_iff.1 hl]; exact h0
    | succ n ih =>
      intro l hl
      have hne : l ≠ [] := by intro e; rw [e] at hl; cases hl
      rw [← List.dropLast_concat_getLast hne]
      exact h1 _ _ (ih _ (by simp [hl]))
  exact this _ l rfl
theorem mOf_spec (nm : ByteArray) (R : List (ByteArray × Int)) : (∀ p ∈ R, 0 ≤ p.2) →
    (mOf nm R = -1 ∧ ∀ p ∈ R, mMatch p.1 nm = false) ∨ (0 ≤ mOf nm R ∧ (∃ p ∈ R, mMatch p.1 nm = true ∧ p.2 = mOf nm R) ∧ ∀ p ∈ R, mMatch p.1 nm = true → p.2 ≤ mOf nm R) := by
  refine snocI (p := fun R => (∀ p ∈ R, 0 ≤ p.2) → (mOf nm R = -1 ∧ ∀ p ∈ R, mMatch p.1 nm = false) ∨ (0 ≤ mOf nm R ∧ (∃ p ∈ R, mMatch p.1 nm = true ∧ p.2 = mOf nm R) ∧ ∀ p ∈ R, mMatch p.1 nm = true → p.2 ≤ mOf nm R)) R (fun _ => .inl ⟨rfl, by simp⟩) (fun l x ih hq => ?_)
  have hx := hq x (by simp)
  have ih := ih (fun p hp => hq p (by simp [hp]))
  have hm : mOf nm (l ++ [x]) = mStep nm (mOf nm l) x := by unfold mOf; simp
  rw [hm]
  unfold mStep
  cases hmt : mMatch x.1 nm with
  | false =>
    rw [if_neg (by simp)]
    rcases ih with ⟨h1, h2⟩ | ⟨h1, ⟨p, hp, h2, h3⟩, h4⟩
    · refine .inl ⟨h1, fun p hp => ?_⟩
      rcases List.mem_append.1 hp with h | h
      · exact h2 p h
      · rw [List.mem_singleton.1 h]; exact hmt
    · refine .inr ⟨h1, ⟨p, by simp [hp], h2, h3⟩, fun p hp hm => ?_⟩
      rcases List.mem_append.1 hp with h | h
      · exact h4 p h hm
      · rw [List.mem_singleton.1 h, hmt] at hm; cases hm
  | true =>
    rw [if_pos rfl]
    refine .inr ?_
    rcases ih with ⟨h1, h2⟩ | ⟨h1, ⟨p, hp, h2, h3⟩, h4⟩
    · rw [h1, Int.max_eq_right (by omega)]
      refine ⟨hx, ⟨x, by simp, hmt, rfl⟩, fun p hp hm => ?_⟩
      rcases List.mem_append.1 hp with h | h
      · rw [h2 p h] at hm; cases hm
      · rw [List.mem_singleton.1 h]; exact Int.le_refl _
    · rcases Int.le_total (mOf nm l) x.2 with h | h
      · rw [Int.max_eq_right h]
        refine ⟨hx, ⟨x, by simp, hmt, rfl⟩, fun p hp hm => ?_⟩
        rcases List.mem_append.1 hp with h' | h'
        · have := h4 p h' hm; omega
        · rw [List.mem_singleton.1 h']; exact Int.le_refl _
      · rw [Int.max_eq_left h]
        refine ⟨h1, ⟨p, by simp [hp], h2, h3⟩, fun p hp hm => ?_⟩
        rcases List.mem_append.1 hp with h' | h'
        · exact h4 p h' hm
        · rw [List.mem_singleton.1 h']; exact h
theorem tOld_spec (i : Nat) (hs : List (Int × Int)) : (tOld i hs = -1 ∧ ∀ q, ((i : Int), q) ∉ hs) ∨ ((i : Int), tOld i hs) ∈ hs := by
  refine snocI (p := fun hs => (tOld i hs = -1 ∧ ∀ q, ((i : Int), q) ∉ hs) ∨ ((i : Int), tOld i hs) ∈ hs) hs (.inl ⟨rfl, by simp⟩) (fun l x ih => ?_)
  have hm : tOld i (l ++ [x]) = tStep i (tOld i l) x := by unfold tOld; simp
  rw [hm]
  unfold tStep
  by_cases h : x.1 = i
  · rw [if_pos h]
    exact .inr (by obtain ⟨x1, x2⟩ := x; simp only at h; subst h; simp)
  · rw [if_neg h]
    rcases ih with ⟨h1, h2⟩ | h1
    · refine .inl ⟨h1, fun q hq => ?_⟩
      rcases List.mem_append.1 hq with h3 | h3
      · exact h2 q h3
      · rw [← List.mem_singleton.1 h3] at h; exact h rfl
    · exact .inr (by simp [h1])
/-- What somebody is told is the greatest of what it wants. -/
theorem told_same {A : Wishes} {i : Nat} (hi : i < 8) {nm : ByteArray} {hs : List (Int × Int)} {R : List (ByteArray × Int)} (hh : tHits A nm hs) (hR : tOf A i R) (hf : ∀ p ∈ A i, 0 ≤ p.2) : tOld i hs = mOf nm R := by
  unfold tOf at hR
  rw [if_neg (by omega), Int.toNat_natCast] at hR
  obtain ⟨hp, _⟩ := hR
  have hq : ∀ p ∈ R, 0 ≤ p.2 := fun p h => hf p (hp.subset h)
  unfold tHits at hh
  cases hn : lvName nm with
  | false =>
    rw [hn, if_pos rfl] at hh
    subst hh
    have hno : ∀ p : ByteArray × Int, mMatch p.1 nm = false := fun p => by unfold mMatch; rw [hn]; simp
    rcases mOf_spec nm R hq with ⟨h1, _⟩ | ⟨_, ⟨p, _, h2, _⟩, _⟩
    · rw [h1]; rfl
    · rw [hno] at h2; cases h2
  | true =>
    rw [hn, if_neg (by simp)] at hh
    obtain ⟨_, hm⟩ := hh
    rcases mOf_spec nm R hq with ⟨h1, h2⟩ | ⟨_, ⟨p, hpm, h2, h3⟩, h4⟩
    · rw [h1]
      rcases tOld_spec i hs with ⟨h5, _⟩ | h5
      · exact h5
      · obtain ⟨n, hn, ⟨p, hp1, hp2, _⟩, _⟩ := (hm _ _).1 h5
        have : n = i := by omega
        subst this
        rw [h2 p (hp.symm.subset hp1)] at hp2; cases hp2
    · have hb : IsBest (Wanted A i nm) (some (mOf nm R)) := ⟨⟨p, hp.subset hpm, h2, h3⟩, fun q hq => by
        obtain ⟨p', hp', hm', rfl⟩ := hq
        exact h4 p' (hp.symm.subset hp') hm'⟩
      rcases tOld_spec i hs with ⟨_, h5⟩ | h5
      · exact absurd ((hm _ _).2 ⟨i, rfl, hb⟩) (h5 _)
      · obtain ⟨n, hn, hb2⟩ := (hm _ _).1 h5
        have : n = i := by omega
        subst this
        exact Option.some.inj (best_one hb2 hb)
theorem hits_rise {A : Wishes} {nm : ByteArray} {hs : List (Int × Int)} (hh : tHits A nm hs) : hs.Pairwise (fun a b => a.1 < b.1) := by
  unfold tHits at hh
  split at hh
  · subst hh; exact List.Pairwise.nil
  · exact hh.1

set_option maxRecDepth 100000 in
set_option maxHeartbeats 4000000 in
theorem wants_walk (a0 : Option Addr) (n0 c0 : Nat) (ms : Nat → AAct) (nm : ByteArray) (w : World) (h0 : RowOf AAct.cells 4 w a0 n0 ms) (_z : nm.size ≤ 140737488351232) (hT : Tabs w) :
    Calls Tryd.prog 4 #[.slice a0 n0 c0, .string nm] w fun e w' => e = .returned (.bool true) ∧ Below w.heap.size w w' := by
  have hl0 : n0 ≤ 9223372036854775807 := by have := h0.1; simp only [maxLen] at this; omega
  replace h0 := Lib.hid h0
  replace hT := Lib.hid hT
  go_enter Tryd.func4, Tryd.ntmps4
  go_wp2_with fail
  refine (tnew_any _).mono ?_
  rintro e w1 ⟨t, F, rfl, hF, hn, hO⟩
  have hTB : TrieB w.heap.size w1 t F (fun _ => []) := ⟨hF, hn⟩
  have hB1 : Below w.heap.size w w1 := hO.below (Nat.le_refl _) (by simp)
  replace hTB := Lib.hid hTB
  replace hB1 := Lib.hid hB1
  clear hF hn hO
  go_wp2_with fail
  go_loopg [6] n0 (fun g s6 wr => ∃ (k : Nat) (F' : List Nat), k ≤ n0 ∧ g = n0 - k ∧ s6 = .int .i64 k ∧ k ≤ 60 ∧ Aside (TrieB w.heap.size wr t F' (addAll ms k) ∧ Below w.heap.size w wr))
  case atStart => exact ⟨0, F, by omega, by omega, rfl, by omega, hTB.out, hB1.out⟩
  case round =>
    obtain ⟨k, F', hk, rfl, rfl, hk6, hH, hB⟩ := hrel
    by_cases hlt : k < n0 ∧ k < 60
    · obtain ⟨b1, o1, rfl, hb1, hx⟩ := (h0.out.below hB).2 (by omega)
      have hxk := hx k hlt.1
      have hHd : TrieB w.heap.size wr.drew t F' (addAll ms k) := hH.nil' (Own.refl [] _).drew
      have hBd : Below w.heap.size w wr.drew := hB.trans (((Own.refl [] wr).drew).below hB.size (by simp))
      have hA := tadd_any t F' (addAll ms k) (ms k).who (ms k).f (ms k).q wr.drew hHd.1 (hT.out.below hBd)
      have hnx : (tAdd (addAll ms k) (ms k).who (ms k).f (ms k).q).2 = addAll ms (k + 1) := rfl
      rw [hnx] at hA
      generalize (tAdd (addAll ms k) (ms k).who (ms k).f (ms k).q).1 = res at hA
      obtain ⟨A', hA'⟩ : ∃ A', addAll ms (k + 1) = A' := ⟨_, rfl⟩
      rw [hA'] at hA
      replace hA' := Lib.hid hA'
      generalize ms k = x at hxk hA
      obtain ⟨x1, x2, x3, x4⟩ := x
      have d1 : wr.cell? ⟨b1, o1 + k * 4 + 1, none⟩ = some (.int .i64 x2) := hxk 1 _ rfl
      have d2 : wr.cell? ⟨b1, o1 + k * 4 + 2, none⟩ = some (.string x3) := hxk 2 _ rfl
      have d3 : wr.cell? ⟨b1, o1 + k * 4 + 3, none⟩ = some (.int .i64 x4) := hxk 3 _ rfl
      have hfin := fun W' h => hHd.left (A' := A') (w' := W') hBd.size h
      replace hA := Lib.hid hA
      replace hfin := Lib.hid hfin
      replace hBd := Lib.hid hBd
      have k1 := hlt.1
      have k2 : (k : Int) < 60 := by omega
      have k0 : (0 : Int) ≤ k := by omega
      clear hx hxk hH hHd hnx
      go_wp2_with fail
      go_region_with ((go_at_call 8; refine hA.out.mono ?_; rintro e w5 ⟨rfl, hL⟩; have hE := hfin.out _ hL; replace hE := Lib.hid hE; clear hL))
      all_goals
        go_wp2_with fail
        go_roundg (n0 - (k + 1))
        case measure => omega
        case rel =>
          obtain ⟨⟨F2, hF2⟩, hB2⟩ := hE.out
          exact ⟨k + 1, F2, by omega, by omega, by go_num, by omega, by rw [hA'.out]; exact hF2, hBd.out.trans hB2⟩
    · have hex : (¬ k < n0) ∨ (k < n0 ∧ ¬ ((k : Int) < 60)) := by
        by_cases h1 : k < n0
        · exact .inr ⟨h1, fun h2 => hlt ⟨h1, by omega⟩⟩
        · exact .inl h1
      generalize addAll ms k = A0 at hH
      obtain ⟨w5, h5⟩ : ∃ W : World, W = wr := ⟨_, rfl⟩
      subst h5
      replace hH := Lib.hid hH
      replace hB := Lib.hid hB
      clear hlt
      have cH := thits_any t F' A0 nm w5 hH.1 (hT.out.below hB)
      replace hH := Lib.hid hH
      replace hB := Lib.hid hB
      replace cH := Lib.hid cH
      rcases hex with h2 | ⟨h2, h3⟩
      all_goals
        go_wp2_with fail
        refine cH.out.mono ?_
        rintro e w6 ⟨v, hs, rfl, hh, hl8, hS, hO6⟩
        have hT6 : TrieB w.heap.size w6 t F' A0 := hH.out.nil' hO6
        have hB6 : Below w.heap.size w w6 := hB.out.trans (hO6.below hB.out.size (by simp))
        have hRd := hS.reads hEnc_len
        obtain ⟨av, cv, rfl⟩ := hS.sl
        obtain ⟨n, hn⟩ : ∃ n, hs.length = n := ⟨_, rfl⟩
        rw [hn] at hl8 hRd ⊢
        have hri := hits_rise hh
        replace hn := Lib.hid hn
        replace hh := Lib.hid hh
        replace hT6 := Lib.hid hT6
        replace hB6 := Lib.hid hB6
        replace hRd := Lib.hid hRd
        replace hri := Lib.hid hri
        clear hS hO6 cH hH hB
        go_wp2_with fail
        go_loopg [8] (n - 1) (fun g s8 wr => ∃ (j : Nat), 1 ≤ j ∧ j ≤ n + 1 ∧ g = n - j ∧ s8 = .int .i64 j ∧ Own [] w6 wr)
        case atStart => exact ⟨1, by omega, by omega, rfl, rfl, Own.refl _ _⟩
        case round =>
          obtain ⟨j, hj1, hj, rfl, rfl, hO⟩ := hrel
          have hwj : IntKind.i64.wrap ((j : Int) + 1) = (j : Int) + 1 := IntWalk.i64_in _ (by omega)
          by_cases hjn : j < n
          · have j1 : (j : Int) < n := by omega
            have j0 : (0 : Int) ≤ j := by omega
            obtain ⟨p, hp⟩ : ∃ p, p + 1 = j := ⟨j - 1, by omega⟩
            have hwm : IntKind.i64.wrap ((j : Int) - 1) = (p : Int) := by rw [show (j : Int) - 1 = (p : Int) by omega]; exact IntWalk.i64_in _ (by omega)
            have j2 : (p : Int) < n := by omega
            have j3 : (0 : Int) ≤ p := by omega
            have hjl : j < hs.length := by have := hn.out; omega
            have hx := List.getElem?_eq_getElem hjl
            have hy := List.getElem?_eq_getElem (show p < hs.length by omega)
            have hlt : (hs[p]'(by omega)).1 < hs[j].1 := List.pairwise_iff_getElem.1 hri.out p j (by omega) hjl (by omega)
            generalize hs[j] = x at hx hlt
            generalize (hs[p]'(by omega)) = y at hy hlt
            obtain ⟨x1, x2⟩ := x
            obtain ⟨y1, y2⟩ := y
            have hRw := hRd.out.nil' hO
            rw [← hn.out] at hRw
            obtain ⟨b0, o0, rfl, hca⟩ := hRw.at_ hEnc_len (by omega)
            have d0 : wr.cell? ⟨b0, o0 + j * 2, none⟩ = some (.int .i64 x1) := by simpa using hca j _ 0 _ hx rfl
            have d1 : wr.cell? ⟨b0, o0 + p * 2, none⟩ = some (.int .i64 y1) := by simpa using hca p _ 0 _ hy rfl
            replace hp := Lib.hid hp
            have d2 : ¬ x1 ≤ y1 := by simp only at hlt; omega
            replace hO := Lib.hid hO
            clear hca hRw hlt hx hy hjl
            go_wp2_with fail
            go_region
            go_wp2_with fail
            go_roundg (n - (j + 1))
            case measure => omega
            case rel => exact ⟨j + 1, by omega, by omega, rfl, by simp, hO.out.drew⟩
          · have j1 : ¬ (j : Int) < n := by omega
            replace hO := Lib.hid hO
            go_wp2_with fail
            go_loopg [9, 10, 11, 12, 13, 14] 8 (fun g s9 s10 s11 s12 s13 s14 wr => ∃ (i : Nat), i ≤ 8 ∧ g = 8 - i ∧ s9 = .int .i64 i ∧ Own [] w6 wr)
            case atStart => exact ⟨0, by omega, rfl, rfl, hO.out⟩
            case round =>
              obtain ⟨i, hi, rfl, rfl, hO2⟩ := hrel
              by_cases hi8 : i < 8
              · have cO := tof_any t F' A0 i wr (hT6.out.1.nil' hO2)
                have i1 : (i : Int) < 8 := by omega
                have hwi : IntKind.i64.wrap ((i : Int) + 1) = (i : Int) + 1 := IntWalk.i64_in _ (by omega)
                replace cO := Lib.hid cO
                have hO2 := Lib.hid hO2
                go_wp2_with fail
                refine cO.out.mono ?_
                rintro e w7 ⟨v, R, rfl, hR, hS, hO7⟩
                have hRl := tOf_len hT6.out.1.cap hR
                have hsame := told_same hi8 hh.out hR (fun p hp => (hT6.out.1.filt i p hp).2.1)
                have hO7 : Own [] w6 w7 := hO2.out.trans hO7
                have hRR := hS.reads fEnc_len
                obtain ⟨av2, cv2, rfl⟩ := hS.sl
                obtain ⟨r, hr⟩ : ∃ r, R.length = r := ⟨_, rfl⟩
                rw [hr] at hRl hRR ⊢
                replace hr := Lib.hid hr
                replace hRR := Lib.hid hRR
                replace hO7 := Lib.hid hO7
                replace hsame := Lib.hid hsame
                clear hR hS cO hO2
                go_wp2_with fail
                go_loopg [11, 12] r (fun g s11 s12 wr => ∃ (j : Nat), j ≤ r ∧ g = r - j ∧ s12 = .int .i64 j ∧ s11 = .int .i64 (mOf nm (R.take j)) ∧ Own [] w7 wr)
                case atStart => exact ⟨0, by omega, rfl, rfl, rfl, Own.refl _ _⟩
                case round =>
                  obtain ⟨j, hj, rfl, rfl, rfl, hO8⟩ := hrel
                  have hwj2 : IntKind.i64.wrap ((j : Int) + 1) = (j : Int) + 1 := IntWalk.i64_in _ (by omega)
                  by_cases hjr : j < r
                  · have r1 : (j : Int) < r := by omega
                    have r0 : (0 : Int) ≤ j := by omega
                    have hx := List.getElem?_eq_getElem (show j < R.length by have := hr.out; omega)
                    generalize (R[j]'(by have := hr.out; omega)) = x at hx
                    have hms := mOf_step (nm := nm) hx
                    obtain ⟨x1, x2⟩ := x
                    have hRw := hRR.out.nil' hO8
                    rw [← hr.out] at hRw
                    obtain ⟨b1, o1, rfl, hca⟩ := hRw.at_ fEnc_len (by have := hr.out; omega)
                    have d0 : wr.cell? ⟨b1, o1 + j * 2, none⟩ = some (.string x1) := by simpa using hca j _ 0 _ hx rfl
                    have d1 : wr.cell? ⟨b1, o1 + j * 2 + 1, none⟩ = some (.int .i64 x2) := hca j _ 1 _ hx rfl
                    have hb0 := block_lt_of_cell d0
                    have d1' : ∀ W, Own [] wr W → W.cell? ⟨b1, o1 + j * 2 + 1, none⟩ = some (.int .i64 x2) := fun W ho => (ho.cell (block_lt_of_cell d1) (by simp)).trans d1
                    have cM := match_any x1 nm wr (hT.out.below (hB6.out.trans ((hO7.out.trans hO8).below hB6.out.size (by simp))))
                    unfold mStep at hms
                    simp only at hms
                    replace hms := Lib.hid hms
                    replace d1' := Lib.hid d1'
                    replace hO8 := Lib.hid hO8
                    replace cM := Lib.hid cM
                    clear d1 hca hRw hx
                    cases hmt : mMatch x1 nm
                    all_goals
                      rw [hmt] at cM
                      go_wp2_with fail
                      refine cM.out.mono ?_
                      rintro e w9 ⟨rfl, hO9⟩
                      have d9 := d1'.out w9 hO9
                      replace hO9 := Lib.hid hO9
                      go_wp2_with fail
                      go_roundg (r - (j + 1))
                      case measure => omega
                      case rel => exact ⟨j + 1, by omega, rfl, by simp, by go_loud (rw [hms.out, hmt]; simp), hO8.out.trans hO9.out⟩
                  · have r1 : ¬ (j : Int) < r := by omega
                    have hfull : R.take j = R := List.take_of_length_le (by have := hr.out; omega)
                    rw [hfull]
                    replace hO8 := Lib.hid (hO7.out.trans hO8)
                    clear hfull
                    go_wp2_with fail
                    go_loopg [13, 14] n (fun g s13 s14 wr => ∃ (p : Nat), p ≤ n ∧ g = n - p ∧ s14 = .int .i64 p ∧ s13 = .int .i64 (tOld i (hs.take p)) ∧ Own [] w6 wr)
                    case atStart => exact ⟨0, by omega, rfl, rfl, rfl, hO8.out⟩
                    case round =>
                      obtain ⟨p, hp, rfl, rfl, rfl, hO9⟩ := hrel
                      have hwp : IntKind.i64.wrap ((p : Int) + 1) = (p : Int) + 1 := IntWalk.i64_in _ (by omega)
                      by_cases hpn : p < n
                      · have p1 : (p : Int) < n := by omega
                        have p0 : (0 : Int) ≤ p := by omega
                        have hx := List.getElem?_eq_getElem (show p < hs.length by have := hn.out; omega)
                        generalize (hs[p]'(by have := hn.out; omega)) = x at hx
                        have hms := tOld_step (i := i) hx
                        obtain ⟨x1, x2⟩ := x
                        have hRw := hRd.out.nil' hO9
                        rw [← hn.out] at hRw
                        obtain ⟨b1, o1, rfl, hca⟩ := hRw.at_ hEnc_len (by have := hn.out; omega)
                        have d0 : wr.cell? ⟨b1, o1 + p * 2, none⟩ = some (.int .i64 x1) := by simpa using hca p _ 0 _ hx rfl
                        have d1 : wr.cell? ⟨b1, o1 + p * 2 + 1, none⟩ = some (.int .i64 x2) := hca p _ 1 _ hx rfl
                        unfold tStep at hms
                        simp only at hms
                        replace hO9 := Lib.hid hO9
                        clear hca hRw hx
                        by_cases hix : x1 = (i : Int)
                        · rw [if_pos hix] at hms
                          replace hms := Lib.hid hms
                          have hix2 : (x1 == (i : Int)) = true := by simp [hix]
                          go_wp2_with fail
                          go_roundg (n - (p + 1))
                          case measure => omega
                          case rel => exact ⟨p + 1, by omega, rfl, by simp, by rw [hms.out], hO9.out⟩
                        · rw [if_neg hix] at hms
                          replace hms := Lib.hid hms
                          have hix2 : (x1 == (i : Int)) = false := by simp [hix]
                          go_wp2_with fail
                          go_roundg (n - (p + 1))
                          case measure => omega
                          case rel => exact ⟨p + 1, by omega, rfl, by simp, by rw [hms.out], hO9.out⟩
                      · have p1 : ¬ (p : Int) < n := by omega
                        have hfull : hs.take p = hs := List.take_of_length_le (by have := hn.out; omega)
                        rw [hfull, hsame.out]
                        have hrl : ¬ (16 : Int) < r := by omega
                        replace hO9 := Lib.hid hO9
                        clear hfull
                        generalize mOf nm R = m
                        go_wp2_with fail
                        go_roundg (8 - (i + 1))
                        case measure => omega
                        case rel => exact ⟨i + 1, by omega, rfl, by simp, hO9.out⟩
              · obtain rfl : i = 8 := by omega
                have hBw : Below w.heap.size w wr := hB6.out.trans (hO2.below hB6.out.size (by simp))
                have hA9 := tawake_any wr (hT.out.below hBw)
                replace hBw := Lib.hid hBw
                replace hA9 := Lib.hid hA9
                clear hO2
                go_wp2_with fail
                refine hA9.out.mono ?_
                rintro e w10 ⟨rfl, hO10⟩
                replace hO10 := Lib.hid (hBw.out.trans (hO10.below hBw.out.size (by simp)))
                go_wp2_with fail
                go_ret
                exact ⟨rfl, hO10.out⟩
end Go.Proofs.YtamclcdcpaiojaaDoor
