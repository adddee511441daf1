/- alias.fresh, alias.others, maps.Copy, Drop: loops. -/
import Derived.Test.YtjbmmgclkhigiaaAlias
import Derived.Deep.LoopGhost
namespace Go.Proofs.Ytjbmmgclkhigiaa
open Go.RowKit

def itList (n : Nat) (its : Nat → Itm) : List Itm := (List.range n).map its
theorem itList_drop {n : Nat} {its : Nat → Itm} {k : Nat} (h : k < n) : (itList n its).drop k = its k :: (itList n its).drop (k + 1) := by
  rw [List.drop_eq_getElem_cons (by simpa [itList] using h)]
  simp [itList]
theorem itList_end {n : Nat} {its : Nat → Itm} {k : Nat} (h : n ≤ k) : (itList n its).drop k = [] := List.drop_eq_nil_of_le (by simpa [itList] using h)

def FreshPost (w : World) (r : Option ATab) (e : Ending) (w' : World) : Prop :=
  (match r with
    | none => e = .returned (.tuple #[.map none, .bool false])
    | some want => ∃ m, e = .returned (.tuple #[.map (some m), .bool true]) ∧ MapP aKey sVal w' m want ∧ w.heap.size ≤ m) ∧ Own [] w w'

set_option maxHeartbeats 1000000 in
theorem fresh_any (ow : ByteArray) (a : Option Addr) (n c : Nat) (its : Nat → Itm) (w : World) (hA : ItemRow w a n its) :
    Calls Try.prog 27 #[.string ow, .slice a n c] w (FreshPost w (aFresh ow (itList n its) [])) := by
  have hl := hA.1
  have hmm := @run_makeMap Try.prog
  have hM0 := MapP.made (ek := aKey) (ev := sVal) w
  obtain ⟨W0, hW0⟩ : ∃ W0, W0 = w.alloc (.map #[] 0) := ⟨_, rfl⟩
  have hO0 : Own [] w W0 := by rw [hW0]; exact (Own.refl _ _).alloc _
  rw [← hW0] at hM0
  replace hmm := hmm 54 w
  rw [← hW0] at hmm
  clear hW0
  obtain ⟨mm, hmmE⟩ : ∃ mm, w.heap.size = mm := ⟨_, rfl⟩
  rw [hmmE] at hM0 hmm
  have hmle : w.heap.size ≤ mm := by omega
  clear hmmE
  generalize hr : aFresh ow (itList n its) [] = r
  replace hr := Lib.hid hr
  go_enter Try.func27, Try.ntmps27
  go_wp2_with fail
  go_loopw [14] (fun i wr => ∃ (k : Nat) (acc : ATab), k ≤ n ∧ i = .int .i64 k ∧ MapP aKey sVal wr mm acc ∧ Own [] w wr ∧ Hid (aFresh ow ((itList n its).drop k) acc = r))
    (fun i _ => n - (intOf i).toNat)
  case atStart => exact ⟨0, [], by omega, rfl, hM0, hO0, hr⟩
  case round =>
    obtain ⟨k, acc, hk, rfl, hM, hO, hR⟩ := hrel
    clear hmm hM0 hO0
    by_cases hlt : k < n
    · have hA' := hA.own hO
      obtain ⟨b, o, rfl, hb, hx⟩ := hA'.2 (by omega)
      have hc := (hx k hlt).2
      rw [itList_drop hlt] at hR
      generalize its k = x at *
      obtain ⟨nm, hs, al, ty, nu, vk, vn, vs⟩ := x
      have c0 := hc 0 _ rfl
      have c1 := hc 1 _ rfl
      have c2 := hc 2 _ rfl
      have c3 := hc 3 _ rfl
      have c4 := hc 4 _ rfl
      have c5 := hc 5 _ rfl
      have c6 := hc 6 _ rfl
      have c7 := hc 7 _ rfl
      simp only [Nat.add_zero] at c0
      clear hx hc hA hA'
      cases hs
      · go_wp2_with fail
        go_roundw
        case rel => exact ⟨k + 1, acc, by omega, by go_num, hM.own ((Own.refl [] _).alloc _) (by simp), hO.alloc _, hR⟩
        case measure => simp [intOf]; omega
      · have hM1 := hM.own ((Own.refl [] wr).alloc (.cells #[.string nm, .bool true, .int .u64 al, .int .u32 ty, .bool nu, .int .i64 vk, .int .u64 vn, .string vs] 33)) (by simp)
        cases hg : aGet acc al with
        | some s =>
          obtain ⟨s1, s2⟩ := s
          have hlk := hM1.lookup_yes aKind aMapT al hg true
          simp only [if_true, aKey, sVal] at hlk
          replace hR : Hid (r = none) := Lib.hid (by have := hR.out; simp only [aFresh, hg, if_true] at this; exact this.symm)
          clear hg hM1
          go_wp2_with fail
          go_ret2
          rw [hR.out]
          exact ⟨rfl, (hO.alloc _).alloc _⟩
        | none =>
          have hlk := hM1.lookup_no aKind aMapT al (aZero _) hg true
          simp only [if_true, aKey] at hlk
          have hM2 := hM1.own ((Own.refl [] _).alloc (.cells #[.string ⟨#[]⟩, .string ⟨#[]⟩] 62)) (by simp)
          obtain ⟨w3, hup, hM3, hO3, _⟩ := hM2.update aKind aMapT al ((ow, nm) : Stands)
          rw [aPut_new hg] at hM3
          simp only [aKey, sVal] at hup
          replace hR : Hid (aFresh ow ((itList n its).drop (k + 1)) (acc ++ [(al, (ow, nm))]) = r) := Lib.hid (by have := hR.out; simp only [aFresh, hg, if_true] at this; exact this)
          have hO4 := ((hO.alloc (.cells #[.string nm, .bool true, .int .u64 al, .int .u32 ty, .bool nu, .int .i64 vk, .int .u64 vn, .string vs] 33)).alloc (.cells #[.string ⟨#[]⟩, .string ⟨#[]⟩] 62)).trans' hO3 (by simp; omega)
          replace hM3 := Lib.hid (And.intro hM3 hO4)
          clear hg hM1 hM2 hO3 hO4
          go_wp2_with fail
          go_roundw
          case rel => exact ⟨k + 1, _, by omega, by go_num, hM3.out.1, hM3.out.2, hR⟩
          case measure => simp [intOf]; omega
    · rw [itList_end (by omega)] at hR
      replace hR : Hid (r = some acc) := Lib.hid (by have := hR.out; simp only [aFresh] at this; exact this.symm)
      have hlt' : n ≤ k := by omega
      clear hlt hA
      replace hM := Lib.hid (And.intro hM hO)
      clear hO
      go_wp2_with fail
      go_ret2
      rw [hR.out]
      exact ⟨⟨mm, rfl, hM.out.1, hmle⟩, hM.out.2⟩

/-! ### others -/
def aCnt (l : ATab) (ow : ByteArray) : Nat := (aOthers l ow).length
theorem aOthers_perm {l l' : ATab} (h : l.Perm l') (ow : ByteArray) : (aOthers l ow).Perm (aOthers l' ow) := h.filter _
theorem aClash_perm {l l' : ATab} (h : l.Perm l') (ow : ByteArray) (want : ATab) : aClash l ow want = aClash l' ow want := (aOthers_perm h ow).any_eq
theorem aOthers_mid_same {r1 r2 : ATab} {k : Int} {ow n : ByteArray} : aOthers (r1 ++ (k, (ow, n)) :: r2) ow = aOthers (r1 ++ r2) ow := by
  simp [aOthers, List.filter_append]
theorem aOthers_mid_other {r1 r2 : ATab} {k : Int} {o n ow : ByteArray} (h : o ≠ ow) : (aOthers (r1 ++ (k, (o, n)) :: r2) ow).Perm ((k, (o, n)) :: aOthers (r1 ++ r2) ow) := by
  have : (o == ow) = false := by simpa using h
  simp only [aOthers, List.filter_append, List.filter_cons, this, Bool.not_false, if_true]
  exact List.perm_middle

set_option maxHeartbeats 1000000 in
theorem others_any (b m mw : Nat) (l want : ATab) (ow : ByteArray) (w : World) (h : Tab w b m l) (hw : MapP aKey sVal w mw want) (hcap : l.length ≤ 1000000) :
    Calls Try.prog 28 #[.pointer (some ⟨b, 0, none⟩), .string ow, .map (some mw)] w fun e w' =>
      e = .returned (.tuple #[.int .i64 (aOthers l ow).length, .bool (!(aClash l ow want))]) ∧ Own [] w w' := by
  have hm : w.cell? ⟨b, 0, none⟩ = some (.map (some m)) := cell_of_row w b 0 _ _ _ h.row
  obtain ⟨w1, rem0, hrng, hI, hp, hO1, hs1⟩ := h.map.range aMapT
  have hw1 := hw.own hO1 (by simp)
  have hlt := hw.lt
  have hcl : (aOthers l ow).Perm (aOthers rem0 ow) := (aOthers_perm hp ow).symm
  have hce : (aOthers l ow).length = (aOthers rem0 ow).length := hcl.length_eq
  have hcc : aClash l ow want = aClash rem0 ow want := aClash_perm hp.symm ow want
  rw [hce, hcc]
  have hcap0 : (aOthers rem0 ow).length ≤ 1000000 := by rw [← hce]; exact Nat.le_trans (List.length_filter_le _ _) hcap
  have hmr : m < w.heap.size := h.map.lt
  have hbr : b < w.heap.size := lt_of_heap h.row
  obtain ⟨r, hr⟩ : ∃ r, w.heap.size = r := ⟨_, rfl⟩
  rw [hr] at hI hrng hmr hbr hlt
  clear h hw hcl hce hcc hp
  have hrr : w.heap.size ≤ r := by omega
  clear hr
  generalize hN : (aOthers rem0 ow).length = N at *
  generalize hC : aClash rem0 ow want = C at *
  replace hN := Lib.hid hN
  replace hC := Lib.hid hC
  go_enter Try.func28, Try.ntmps28
  go_wp2_with fail
  go_loopg [8, 9] rem0.length (fun g n cl wr => ∃ (rem : ATab) (c : Nat) (q : Bool), g = rem.length ∧ n = .int .i64 c ∧ cl = .bool q ∧ IterP aKey sVal wr r m l rem ∧ MapP aKey sVal wr mw want ∧ Own [] w wr ∧
      c + (aOthers rem ow).length = N ∧ (q || aClash rem ow want) = C)
  case atStart => exact ⟨rem0, 0, false, rfl, rfl, rfl, hI, hw1, hO1, by rw [hN.out]; omega, by rw [hC.out]; simp⟩
  case round =>
    obtain ⟨rem, c, q, rfl, rfl, rfl, hI, hW, hO, hc, hq⟩ := hrel
    have hrl := hI.lt
    rcases hI.next Try.prog with ⟨hrem, hnx⟩ | ⟨r1, r2, k, v, w2, hrem, hnx, hI2, hO2, hs2, hen⟩
    · subst hrem
      have hc' : c = N := by simpa [aOthers] using hc
      have hq' : q = C := by simpa [aClash, aOthers] using hq
      subst hc' hq'
      clear hc hq hI hW
      go_wp2_with fail
      go_ret2
      exact ⟨rfl, hO⟩
    · subst hrem
      obtain ⟨ow2, nm⟩ := v
      simp only [aKey, sVal] at hnx hen
      have hcN : c + 1 ≤ N + 1 := by omega
      have hO3 := hO.trans' hO2 (by simp; omega)
      have hW2 := hW.own hO2 (by simp; omega)
      have hI3 := hI2.own ((Own.refl [] _).alloc (.cells #[.string ow2, .string nm] 62)) (by simp) (by simp)
      have hW3 := hW2.own ((Own.refl [] _).alloc (.cells #[.string ow2, .string nm] 62)) (by simp)
      by_cases ho : ow2 = ow
      · subst ho
        rw [aOthers_mid_same] at hc
        have hq2 : (q || aClash (r1 ++ r2) ow2 want) = C := by rw [← hq]; simp only [aClash, aOthers_mid_same]
        have A : Aside (c + (aOthers (r1 ++ r2) ow2).length = N ∧ (q || aClash (r1 ++ r2) ow2 want) = C) := ⟨hc, hq2⟩
        have B : Aside (IterP aKey sVal _ r m l (r1 ++ r2) ∧ MapP aKey sVal _ mw want ∧ Own [] w _) := ⟨hI3, hW3, hO3.alloc (.cells #[.string ow2, .string nm] 62)⟩
        clear hc hq hq2 hI hW hO hI2 hW2 hO2 hO3 hI3 hW3 hC hN
        go_wp2_with fail
        go_roundg (r1 ++ r2).length
        case measure => simp
        case rel => exact ⟨r1 ++ r2, c, q, rfl, rfl, rfl, B.out.1, B.out.2.1, B.out.2.2, A.out.1, A.out.2⟩
      · have hob : (ow2.toList == ow.toList) = false := by rw [← beq_toListBytes]; simpa using ho
        have hp2 := aOthers_mid_other (r1 := r1) (r2 := r2) (k := k) (n := nm) ho
        have hc2 : (c + 1) + (aOthers (r1 ++ r2) ow).length = N := by have := hp2.length_eq; simp at this; omega
        have hcl : aClash (r1 ++ (k, (ow2, nm)) :: r2) ow want = ((aGet want k).isSome || aClash (r1 ++ r2) ow want) := by
          unfold aClash; rw [hp2.any_eq]; rfl
        rw [hcl] at hq
        have hNb : c + 1 ≤ 1000000 := by omega
        cases hg : aGet want k with
        | none =>
          have hlk := hW3.lookup_no aKind aMapT k (aZero _) hg true
          simp only [if_true, aKey] at hlk
          rw [hg] at hq
          have A : Aside ((c + 1) + (aOthers (r1 ++ r2) ow).length = N ∧ (q || aClash (r1 ++ r2) ow want) = C) := ⟨hc2, by simpa using hq⟩
          have B : Aside (IterP aKey sVal _ r m l (r1 ++ r2) ∧ MapP aKey sVal _ mw want ∧ Own [] w _) :=
            ⟨hI3.own ((Own.refl [] _).alloc (.cells #[.string ⟨#[]⟩, .string ⟨#[]⟩] 62)) (by simp) (by simp), hW3.own ((Own.refl [] _).alloc (.cells #[.string ⟨#[]⟩, .string ⟨#[]⟩] 62)) (by simp), (hO3.alloc (.cells #[.string ow2, .string nm] 62)).alloc (.cells #[.string ⟨#[]⟩, .string ⟨#[]⟩] 62)⟩
          clear hc hq hc2 hI hW hO hI2 hW2 hO2 hO3 hI3 hW3 hC hN hp2 hcl hg ho
          go_wp2_with fail
          go_roundg (r1 ++ r2).length
          case measure => simp
          case rel => exact ⟨r1 ++ r2, c + 1, q, rfl, by go_num, rfl, B.out.1, B.out.2.1, B.out.2.2, A.out.1, A.out.2⟩
        | some s =>
          obtain ⟨s1, s2⟩ := s
          have hlk := hW3.lookup_yes aKind aMapT k hg true
          simp only [if_true, aKey, sVal] at hlk
          rw [hg] at hq
          have A : Aside ((c + 1) + (aOthers (r1 ++ r2) ow).length = N ∧ (true || aClash (r1 ++ r2) ow want) = C) := ⟨hc2, by simpa using hq⟩
          have B : Aside (IterP aKey sVal _ r m l (r1 ++ r2) ∧ MapP aKey sVal _ mw want ∧ Own [] w _) :=
            ⟨hI3.own ((Own.refl [] _).alloc (.cells #[.string s1, .string s2] 62)) (by simp) (by simp), hW3.own ((Own.refl [] _).alloc (.cells #[.string s1, .string s2] 62)) (by simp), (hO3.alloc (.cells #[.string ow2, .string nm] 62)).alloc (.cells #[.string s1, .string s2] 62)⟩
          clear hc hq hc2 hI hW hO hI2 hW2 hO2 hO3 hI3 hW3 hC hN hp2 hcl hg ho
          go_wp2_with fail
          go_roundg (r1 ++ r2).length
          case measure => simp
          case rel => exact ⟨r1 ++ r2, c + 1, true, rfl, by go_num, rfl, B.out.1, B.out.2.1, B.out.2.2, A.out.1, A.out.2⟩
end Go.Proofs.Ytjbmmgclkhigiaa
