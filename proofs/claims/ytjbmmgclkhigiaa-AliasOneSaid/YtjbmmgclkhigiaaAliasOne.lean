/- AliasOne: an alias of one owner is no other one's. -/
import Derived.Test.YtjbmmgclkhigiaaAliasAwake
import Derived.Test.YtjbmmgclkhigiaaUA
import Derived.Deep.LoopGhost
set_option linter.unusedSimpArgs false
set_option linter.unusedVariables false
namespace Go.Proofs.Ytjbmmgclkhigiaa
open Go.RowKit

/-! ### plain -/
theorem may_want {l : ATab} {ow : ByteArray} {L : List Itm} (h : (aMay l ow L).1 = 0) : (aMay l ow L).2 = wantOf ow L := by
  unfold aMay at h ⊢
  cases hf : aFresh ow L [] with
  | none => rw [hf] at h; simp at h
  | some want =>
    rw [hf] at h
    simp only at h ⊢
    split at h
    · simp at h
    · split at h
      · simp at h
      · rename_i h1 h2
        rw [if_neg h1, if_neg h2]
        simpa using aFresh_eq ow L [] want hf
theorem set_cases (l : ATab) (ow : ByteArray) (L : List Itm) : ((aSet l ow L).1 = (aMay l ow L).1 ∧ ((aMay l ow L).1 ≠ 0 → (aSet l ow L).2 = l) ∧ ((aMay l ow L).1 = 0 → (aSet l ow L).2 = aOthers l ow ++ wantOf ow L)) := by
  unfold aSet
  by_cases h : (aMay l ow L).1 = 0
  · rw [if_pos h]
    exact ⟨h.symm, fun h2 => absurd h h2, fun _ => by rw [may_want h]⟩
  · rw [if_neg h]
    exact ⟨rfl, fun _ => rfl, fun h2 => absurd h2 h⟩
theorem set_owners {l : ATab} {ow : ByteArray} {P : ByteArray → Prop} (h : ∀ p ∈ l, P p.2.1) (ho : P ow) (L : List Itm) : ∀ p ∈ (aSet l ow L).2, P p.2.1 := by
  obtain ⟨_, h1, h2⟩ := set_cases l ow L
  by_cases hc : (aMay l ow L).1 = 0
  · rw [h2 hc]
    intro p hp
    rcases List.mem_append.1 hp with hp | hp
    · exact h p (List.mem_filter.1 hp).1
    · rw [wantOf_own ow L p hp]; exact ho
  · rw [h1 hc]; exact h
theorem get_app {l r : ATab} {k : Int} {s : Stands} (h : aGet l k = some s) : aGet (l ++ r) k = some s := by
  unfold aGet at h ⊢
  rw [List.find?_append]
  obtain ⟨p, hp, rfl⟩ := Option.map_eq_some_iff.1 h
  rw [hp]
  rfl
def oE : ByteArray := ⟨#[]⟩
def oD : ByteArray := ⟨#[100]⟩
def oX : ByteArray := ⟨#[101]⟩
theorem one_find {l : ATab} (hn : (l.map (·.1)).Nodup) (h : ∀ p ∈ l, p.2.1 = oE ∨ p.2.1 = oD) (C : List Itm) {k : Int} (hk : k ∈ l.map (·.1)) :
    ∃ t : Bool, (aFind (aSet l oX C).2 oE k).2 = t ∧ (aFind (aSet l oX C).2 oD k).2 = !t ∧ (aFind (aSet l oX C).2 oX k).2 = false := by
  obtain ⟨p, hp, rfl⟩ := List.mem_map.1 hk
  have hg : aGet l p.1 = some p.2 := aGet_some_of l hn hp
  have hg3 : aGet (aSet l oX C).2 p.1 = some p.2 := by
    obtain ⟨_, h1, h2⟩ := set_cases l oX C
    by_cases hc : (aMay l oX C).1 = 0
    · rw [h2 hc]
      have : aOthers l oX = l := List.filter_eq_self.2 fun q hq => by
        rcases h q hq with e | e <;> rw [e] <;> decide
      rw [this]
      exact get_app hg
    · rw [h1 hc]; exact hg
  have b1 : (oE == oE) = true := by decide
  have b2 : (oE == oD) = false := by decide
  have b3 : (oE == oX) = false := by decide
  have b4 : (oD == oE) = false := by decide
  have b5 : (oD == oD) = true := by decide
  have b6 : (oD == oX) = false := by decide
  unfold aFind
  rw [hg3]
  rcases h p hp with e | e
  · exact ⟨true, by simp only [e, b1, if_true], by simp [e, b2], by simp [e, b3]⟩
  · exact ⟨false, by simp [e, b4], by simp [e, b5], by simp [e, b6]⟩

/-! ### the walk -/
theorem try_eq {b m : Nat} {l : ATab} {ow : ByteArray} {a : Option Addr} {n : Nat} {its : Nat → Itm} {r : Int} (he : (aMay l ow (itList n its)).1 = r) (c : Nat) (w : World) (h : Tab w b m l) (hA : ItemRow w a n its) (hcap : l.length ≤ 1000000) :
    Calls Try.prog 14 #[.pointer (some ⟨b, 0, none⟩), .string ow, .slice a n c] w fun e w' => e = .returned (.int .i64 r) ∧ Own [] w w' := he ▸ try_any b m l ow a n c its w h hA hcap
set_option maxRecDepth 100000 in
set_option maxHeartbeats 8000000 in
theorem one_walk (a0 : Option Addr) (n0 c0 : Nat) (z0 : Nat → Itm) (a1 : Option Addr) (n1 c1 : Nat) (z1 : Nat → Itm) (a2 : Option Addr) (n2 c2 : Nat) (z2 : Nat → Itm) (w : World) (h0 : ItemRow w a0 n0 z0) (h1 : ItemRow w a1 n1 z1) (h2 : ItemRow w a2 n2 z2) :
    Calls Try.prog 4 #[.slice a0 n0 c0, .slice a1 n1 c1, .slice a2 n2 c2] w fun e w' => e = .returned (.bool true) ∧ Below w.heap.size w w' := by
  have hl0 := h0.1
  have hl1 := h1.1
  have hl2 := h2.1
  have hA := Lib.hid (fun w => awake_any w)
  by_cases hbig : 200 < n0 + n1 + n2
  · have hbz : (200 : Int) < (n0 : Int) + n1 + n2 := by omega
    clear h0 h1 h2
    go_enter Try.func4, Try.ntmps4
    go_wp2_with fail
    refine (hA.out _).mono ?_
    rintro e w1 ⟨rfl, hO⟩
    go_wp2_with fail
    go_ret
    exact ⟨rfl, hO.below (Nat.le_refl _) (by simp)⟩
  · have hbz : ¬ (200 : Int) < (n0 : Int) + n1 + n2 := by omega
    obtain ⟨T1, hT1⟩ : ∃ T1, aSet [] oE (itList n0 z0) = T1 := ⟨_, rfl⟩
    obtain ⟨T2, hT2⟩ : ∃ T2, aSet T1.2 oD (itList n1 z1) = T2 := ⟨_, rfl⟩
    obtain ⟨T3, hT3⟩ : ∃ T3, aSet T2.2 oX (itList n2 z2) = T3 := ⟨_, rfl⟩
    have hlen1 : T1.2.length ≤ 64 := by rw [← hT1]; exact aSet_len (by simp)
    have hlen2 : T2.2.length ≤ 64 := by rw [← hT2]; exact aSet_len hlen1
    have hlen3 : T3.2.length ≤ 64 := by rw [← hT3]; exact aSet_len hlen2
    have hown1 : ∀ p ∈ T1.2, p.2.1 = oE ∨ p.2.1 = oD := by rw [← hT1]; exact set_owners (P := fun o => o = oE ∨ o = oD) (by simp) (.inl rfl) _
    have hown2 : ∀ p ∈ T2.2, p.2.1 = oE ∨ p.2.1 = oD := by rw [← hT2]; exact set_owners (P := fun o => o = oE ∨ o = oD) hown1 (.inr rfl) _
    obtain ⟨q1, q2, q3⟩ := set_cases T2.2 oX (itList n2 z2)
    rw [hT3] at q1 q2 q3
    have hF := fun hn k hk => one_find (l := T2.2) hn hown2 (itList n2 z2) (k := k) hk
    rw [hT3] at hF
    obtain ⟨t1, T1⟩ := T1
    obtain ⟨t2, T2⟩ := T2
    obtain ⟨t3, T3⟩ := T3
    simp only at hT1 hT2 hT3 hlen1 hlen2 hlen3 q1 q2 q3 hF
    have hM : (aMay T2 oX (itList n2 z2)).1 = t3 := q1.symm
    have hsame : t3 ≠ 0 → T3 = T2 := fun h => q2 (by rw [hM]; exact h)
    replace hT1 := Lib.hid hT1
    replace hT2 := Lib.hid hT2
    replace hT3 := Lib.hid hT3
    replace hM := Lib.hid hM
    replace hsame := Lib.hid hsame
    replace hF := Lib.hid hF
    replace h0 := Lib.hid h0
    replace h1 := Lib.hid h1
    replace h2 := Lib.hid h2
    clear q1 q2 q3 hown1 hown2
    go_enter Try.func4, Try.ntmps4
    go_wp2_with fail
    refine (new_any _).mono ?_
    rintro e w1 ⟨b, m, rfl, hT, hb, hm, hO⟩
    have S1 := Lib.hid (set_eq hT1.out c0 w1 hT (h0.out.own hO) (by simp))
    have hz1 := hO.size
    have hmb : w.heap.size ≤ m := hm
    replace hO := Lib.hid hO
    clear hT
    go_wp2_with fail
    refine S1.out.mono ?_
    rintro e w2 ⟨rfl, hTa, hO2⟩
    have hB2 : Below w.heap.size w w2 := (hO.out.below (Nat.le_refl _) (by simp)).trans (hO2.below hz1 (by simp; omega))
    have S2 := Lib.hid (set_eq hT2.out c1 w2 hTa (h1.out.below hB2) (by omega))
    have hz2 := hO2.size
    clear hTa S1 hO2
    replace hB2 := Lib.hid hB2
    go_wp2_with fail
    refine S2.out.mono ?_
    rintro e w3 ⟨rfl, hTb, hO3⟩
    have hB3 : Below w.heap.size w w3 := hB2.out.trans (hO3.below (by omega) (by simp; omega))
    have hz3 := hO3.size
    have SA := Lib.hid (all_u b m T2 w3 hTb (by omega))
    have hmlt := hTb.lt.2
    replace hTb := Lib.hid hTb
    replace hB3 := Lib.hid hB3
    clear S2 hO3
    go_wp2_with fail
    refine SA.out.mono ?_
    rintro e w4 ⟨v, ks, rfl, hkp, hks, hkr, hO4, hkb⟩
    have hTc := hTb.out.own hO4 (by simp) (by simp)
    have hB4 : Below w.heap.size w w4 := hB3.out.trans (hO4.below (by omega) (by simp))
    have hz4 := hO4.size
    have ST := Lib.hid (try_eq hM.out c2 w4 hTc (h2.out.below hB4) (by omega))
    have hvm : ∀ g, v.ownBlock = some g → g ∉ [m] := fun g hg => by have := hkb g hg; simp; omega
    replace hvm := Lib.hid hvm
    obtain ⟨va, vc, rfl⟩ := hkr.form
    have hnd := hTc.nodup
    have hF2 := fun k hk => hF.out hnd k ((hkp.mem_iff).1 hk)
    have hlk : ks.length = T2.length := by have := hkp.length_eq; simpa using this
    obtain ⟨N, hN⟩ : ∃ N, ks.length = N := ⟨_, rfl⟩
    rw [hN] at hkr hlk hvm ⊢
    have hN64 : N ≤ 64 := by omega
    replace hN := Lib.hid hN
    replace hlk := Lib.hid hlk
    replace hF2 := Lib.hid hF2
    replace hTc := Lib.hid hTc
    replace hB4 := Lib.hid hB4
    replace hkr := Lib.hid hkr
    clear SA hO4 hkp hks hkb hnd
    go_wp2_with fail
    refine ST.out.mono ?_
    rintro e w5 ⟨rfl, hO5⟩
    have hTd := hTc.out.own hO5 (by simp) (by simp)
    have hB5 : Below w.heap.size w w5 := hB4.out.trans (hO5.below (by omega) (by simp))
    have hz5 := hO5.size
    have hkr5 := hkr.out.nil' hO5
    have S3 := Lib.hid (set_eq hT3.out c2 w5 hTd (h2.out.below hB5) (by omega))
    replace hB5 := Lib.hid hB5
    replace hkr5 := Lib.hid hkr5
    clear ST hO5 hTd
    go_wp2_with fail
    refine S3.out.mono ?_
    rintro e w6 ⟨rfl, hTe, hO6⟩
    have hB6 : Below w.heap.size w w6 := hB5.out.trans (hO6.below (by omega) (by simp; omega))
    have hz6 := hO6.size
    have hkr6 := hkr5.out.own hO6 hvm.out
    replace hB6 := Lib.hid hB6
    replace hkr6 := Lib.hid hkr6
    replace hTe := Lib.hid hTe
    clear S3 hO6
    have hloop : Hid (∀ W, Own [] w6 W → Below w.heap.size w W ∧ w.heap.size ≤ W.heap.size ∧ Reads uL W (.slice va N vc) ks ∧ Tab W b m T3) := Lib.hid fun W ho =>
      ⟨hB6.out.trans (ho.below (by omega) (by simp)), Nat.le_trans (by omega) ho.size, hkr6.out.nil' ho, hTe.out.own ho (by simp) (by simp)⟩
    have hend : Hid (∀ W, Own [] w6 W → ∀ (k : Nat), k < N → ∃ q, ks[k]? = some q ∧ (∃ bb oo, va = some ⟨bb, oo, none⟩ ∧ W.cell? ⟨bb, oo + k, none⟩ = some (.int .u64 q)) ∧ ∃ t : Bool, (aFind T3 oE q).2 = t ∧ (aFind T3 oD q).2 = !t ∧ (aFind T3 oX q).2 = false) := Lib.hid fun W ho k hk => by
      obtain ⟨q, hq⟩ : ∃ q, ks[k]? = some q := ⟨_, List.getElem?_eq_getElem (by have := hN.out; omega)⟩
      refine ⟨q, hq, ?_, hF2.out q (List.mem_of_getElem? hq)⟩
      obtain ⟨bb, oo, hab, hc⟩ := (hloop.out W ho).2.2.1.at_ uL_len (by have := hN.out; omega)
      have e := hc k q 0 _ hq rfl
      simp only [Nat.mul_one, Nat.add_zero] at e
      exact ⟨bb, oo, hab, e⟩
    have hgo : Hid (∀ W, Own [] w6 W → Calls Try.prog 7 #[] W fun e w' => e = .returned (.bool true) ∧ Below w.heap.size w w') := Lib.hid fun W ho => (hA.out W).mono fun e w' ⟨h1, h2⟩ =>
      ⟨h1, (hloop.out W ho).1.trans (h2.below (hloop.out W ho).2.1 (by simp))⟩
    by_cases ht3 : t3 = 0
    · subst ht3
      have hw6 : Aside (Own [] w6 w6) := Own.refl _ _
      go_wp2_with fail
      go_loopg [12, 13, 14, 15, 16, 17, 18] N (fun g s12 s13 s14 s15 s16 s17 s18 wr => ∃ k : Nat, k ≤ N ∧ g = N - k ∧ s12 = .int .i64 k ∧ Aside (Own [] w6 wr))
      case atStart => exact ⟨0, Nat.zero_le _, rfl, rfl, hw6⟩
      case round =>
        obtain ⟨k, hk, rfl, rfl, hOr⟩ := hrel
        by_cases hkN : k < N
        · obtain ⟨q, hq, ⟨bb, oo, hva, c0⟩, tt, f1, f2, f3⟩ := hend.out wr hOr.out k hkN
          have hcell : Hid (∀ W, Own [] wr W → W.cell? ⟨bb, oo + k, none⟩ = some (.int .u64 q)) := Lib.hid fun W ho => (ho.cell (p := ⟨bb, oo + k, none⟩) (block_lt_of_cell c0) (by simp)).trans c0
          have F1 : Hid (∀ W, Own [] wr W → Calls Try.prog 10 #[.pointer (some ⟨b, 0, none⟩), .string ⟨#[]⟩, .int .u64 q] W fun e w' => (∃ s, e = .returned (.tuple #[.string s, .bool tt])) ∧ Own [] W w') := Lib.hid fun W ho =>
            (find_any b m T3 oE q W (hloop.out W (hOr.out.trans ho)).2.2.2).mono fun e w' ⟨x1, x2⟩ => ⟨⟨(aFind T3 oE q).1, by rw [x1, f1]⟩, x2⟩
          have F2 : Hid (∀ W, Own [] wr W → Calls Try.prog 10 #[.pointer (some ⟨b, 0, none⟩), .string ⟨#[100]⟩, .int .u64 q] W fun e w' => (∃ s, e = .returned (.tuple #[.string s, .bool (!tt)])) ∧ Own [] W w') := Lib.hid fun W ho =>
            (find_any b m T3 oD q W (hloop.out W (hOr.out.trans ho)).2.2.2).mono fun e w' ⟨x1, x2⟩ => ⟨⟨(aFind T3 oD q).1, by rw [x1, f2]⟩, x2⟩
          have F3 : Hid (∀ W, Own [] wr W → Calls Try.prog 10 #[.pointer (some ⟨b, 0, none⟩), .string ⟨#[101]⟩, .int .u64 q] W fun e w' => (∃ s, e = .returned (.tuple #[.string s, .bool false])) ∧ Own [] W w') := Lib.hid fun W ho =>
            (find_any b m T3 oX q W (hloop.out W (hOr.out.trans ho)).2.2.2).mono fun e w' ⟨x1, x2⟩ => ⟨⟨(aFind T3 oX q).1, by rw [x1, f3]⟩, x2⟩
          subst hva
          clear hq f1 f2 f3
          have hr0 : Own [] wr wr := Own.refl _ _
          go_wp2_with fail
          refine (F1.out wr (Own.refl _ _)).mono ?_
          rintro e w7 ⟨⟨s1, rfl⟩, hO7⟩
          have c1 := hcell.out w7 hO7
          replace hO7 := Lib.hid hO7
          clear c0
          go_wp2_with fail
          refine (F2.out w7 hO7.out).mono ?_
          rintro e w8 ⟨⟨s2, rfl⟩, hO8⟩
          have hO78 := hO7.out.trans hO8
          have c2 := hcell.out w8 hO78
          replace hO78 := Lib.hid hO78
          clear c1 hO8
          go_wp2_with fail
          refine (F3.out w8 hO78.out).mono ?_
          rintro e w9 ⟨⟨s3, rfl⟩, hO9⟩
          have hO89 := Lib.hid (hOr.out.trans (hO78.out.trans hO9))
          clear c2 hO9
          cases tt
          · go_wp2_with fail
            go_roundg (N - (k + 1))
            case measure => omega
            case rel => exact ⟨k + 1, by omega, rfl, by go_num, hO89.out⟩
          · go_wp2_with fail
            go_roundg (N - (k + 1))
            case measure => omega
            case rel => exact ⟨k + 1, by omega, rfl, by go_num, hO89.out⟩
        · obtain rfl : k = N := by omega
          have cA := Lib.hid (hgo.out wr hOr.out)
          go_wp2_with fail
          refine cA.out.mono ?_
          rintro e w7 ⟨rfl, hB7⟩
          replace hB7 := Lib.hid hB7
          go_wp2_with fail
          go_ret
          exact ⟨rfl, hB7.out⟩
    · have htz : (t3 != 0) = true := by simpa using ht3
      have hTs := hsame.out ht3
      have SB := all_u b m T3 w6 hTe.out (by omega)
      have hl3 : T3.length = N := by rw [hTs]; exact hlk.out.symm
      replace SB := Lib.hid SB
      replace hl3 := Lib.hid hl3
      clear hTs
      go_wp2_with fail
      refine SB.out.mono ?_
      rintro e wq ⟨vq, kq, rfl, hqp, _, hqr, hOq, _⟩
      obtain ⟨aq, cq, rfl⟩ := hqr.form
      have hlq : kq.length = N := by have := hqp.length_eq; rw [← hl3.out]; simpa using this
      rw [hlq]
      have hw6 : Aside (Own [] w6 wq) := hOq
      clear hqp hqr hOq hlq
      go_wp2_with fail
      go_loopg [12, 13, 14, 15, 16, 17, 18] N (fun g s12 s13 s14 s15 s16 s17 s18 wr => ∃ k : Nat, k ≤ N ∧ g = N - k ∧ s12 = .int .i64 k ∧ Aside (Own [] w6 wr))
      case atStart => exact ⟨0, Nat.zero_le _, rfl, rfl, hw6⟩
      case round =>
        obtain ⟨k, hk, rfl, rfl, hOr⟩ := hrel
        by_cases hkN : k < N
        · obtain ⟨q, hq, ⟨bb, oo, hva, c0⟩, tt, f1, f2, f3⟩ := hend.out wr hOr.out k hkN
          have hcell : Hid (∀ W, Own [] wr W → W.cell? ⟨bb, oo + k, none⟩ = some (.int .u64 q)) := Lib.hid fun W ho => (ho.cell (p := ⟨bb, oo + k, none⟩) (block_lt_of_cell c0) (by simp)).trans c0
          have F1 : Hid (∀ W, Own [] wr W → Calls Try.prog 10 #[.pointer (some ⟨b, 0, none⟩), .string ⟨#[]⟩, .int .u64 q] W fun e w' => (∃ s, e = .returned (.tuple #[.string s, .bool tt])) ∧ Own [] W w') := Lib.hid fun W ho =>
            (find_any b m T3 oE q W (hloop.out W (hOr.out.trans ho)).2.2.2).mono fun e w' ⟨x1, x2⟩ => ⟨⟨(aFind T3 oE q).1, by rw [x1, f1]⟩, x2⟩
          have F2 : Hid (∀ W, Own [] wr W → Calls Try.prog 10 #[.pointer (some ⟨b, 0, none⟩), .string ⟨#[100]⟩, .int .u64 q] W fun e w' => (∃ s, e = .returned (.tuple #[.string s, .bool (!tt)])) ∧ Own [] W w') := Lib.hid fun W ho =>
            (find_any b m T3 oD q W (hloop.out W (hOr.out.trans ho)).2.2.2).mono fun e w' ⟨x1, x2⟩ => ⟨⟨(aFind T3 oD q).1, by rw [x1, f2]⟩, x2⟩
          have F3 : Hid (∀ W, Own [] wr W → Calls Try.prog 10 #[.pointer (some ⟨b, 0, none⟩), .string ⟨#[101]⟩, .int .u64 q] W fun e w' => (∃ s, e = .returned (.tuple #[.string s, .bool false])) ∧ Own [] W w') := Lib.hid fun W ho =>
            (find_any b m T3 oX q W (hloop.out W (hOr.out.trans ho)).2.2.2).mono fun e w' ⟨x1, x2⟩ => ⟨⟨(aFind T3 oX q).1, by rw [x1, f3]⟩, x2⟩
          subst hva
          clear hq f1 f2 f3
          have hr0 : Own [] wr wr := Own.refl _ _
          go_wp2_with fail
          refine (F1.out wr (Own.refl _ _)).mono ?_
          rintro e w7 ⟨⟨s1, rfl⟩, hO7⟩
          have c1 := hcell.out w7 hO7
          replace hO7 := Lib.hid hO7
          clear c0
          go_wp2_with fail
          refine (F2.out w7 hO7.out).mono ?_
          rintro e w8 ⟨⟨s2, rfl⟩, hO8⟩
          have hO78 := hO7.out.trans hO8
          have c2 := hcell.out w8 hO78
          replace hO78 := Lib.hid hO78
          clear c1 hO8
          go_wp2_with fail
          refine (F3.out w8 hO78.out).mono ?_
          rintro e w9 ⟨⟨s3, rfl⟩, hO9⟩
          have hO89 := Lib.hid (hOr.out.trans (hO78.out.trans hO9))
          clear c2 hO9
          cases tt
          · go_wp2_with fail
            go_roundg (N - (k + 1))
            case measure => omega
            case rel => exact ⟨k + 1, by omega, rfl, by go_num, hO89.out⟩
          · go_wp2_with fail
            go_roundg (N - (k + 1))
            case measure => omega
            case rel => exact ⟨k + 1, by omega, rfl, by go_num, hO89.out⟩
        · obtain rfl : k = N := by omega
          have cA := Lib.hid (hgo.out wr hOr.out)
          go_wp2_with fail
          refine cA.out.mono ?_
          rintro e w7 ⟨rfl, hB7⟩
          replace hB7 := Lib.hid hB7
          go_wp2_with fail
          go_ret
          exact ⟨rfl, hB7.out⟩
end Go.Proofs.Ytjbmmgclkhigiaa
