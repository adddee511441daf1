/- Package trie: Clear. -/
import Derived.Test.YtldagaliddgdjaaGreatDoorTrieBestOf
namespace Go.Proofs.YtldagaliddgdjaaGreatDoor
open Go.RowKit Go.Lib Go.Shelf Go.Sort

theorem upd_same (A : Wishes) (k : Nat) : upd A k (A k) = A := by
  funext j; unfold upd; split
  · rename_i h; rw [h]
  · rfl
theorem upd_upd (A : Wishes) (k : Nat) (l l' : List (ByteArray × Int)) : upd (upd A k l) k l' = upd A k l' := by
  funext j; unfold upd; split <;> rfl
theorem upd_get (A : Wishes) (k : Nat) (l : List (ByteArray × Int)) : upd A k l k = l := by unfold upd; rw [if_pos rfl]
theorem tdrop2_any (t : Nat) (F : List Nat) (A : Wishes) (who : Int) (s : ByteArray) (w : World) (h : TrieF w t F A) (hs : s.size ≤ 1048576) :
    Calls Tryz.prog 18 #[.pointer (some ⟨t, 0, none⟩), .int .i64 who, .string s] w fun e w' => e = .returned (.bool (tDrop A who s).1) ∧ TrieF w' t F (tDrop A who s).2 ∧ Own F w w' := by
  have h0 := h
  obtain ⟨root, N, cnt, rfl, h⟩ := h
  unfold tDrop
  by_cases hk : who < 0 ∨ 8 ≤ who
  · rw [if_pos hk]
    refine (drop_unknown t root N cnt who s w h.trie hk).mono ?_
    rintro e w' ⟨rfl, rfl⟩
    exact ⟨rfl, h0, Own.refl _ _⟩
  · rw [if_neg hk]
    obtain ⟨k, rfl, hk8⟩ := int_nat hk
    rw [Int.toNat_natCast]
    cases hh : (aGet (A k) s).isSome with
    | false =>
      simp only [Bool.false_eq_true, if_false]
      refine (drop_not t root N cnt k s w h.trie hk8 hs (by rw [h.has]; exact hh)).mono ?_
      rintro e w' ⟨rfl, ho⟩
      exact ⟨rfl, h0.nil' ho, ho.nil⟩
    | true =>
      simp only [if_true]
      refine (drop_yes t root N cnt k s w h.trie hk8 hs (by rw [h.has]; exact hh) h.cnts).mono ?_
      rintro e w' ⟨N', b, rfl, hP, hT, hft, hO⟩
      exact ⟨rfl, ⟨root, N', _, by rw [hft], h.dropped hk8 hh hP hT⟩, hO⟩
theorem tDrop_known {A : Wishes} {k : Nat} (hk : k < 8) (s : ByteArray) : (tDrop A k s).2 = upd A k (aDel (A k) s) := by
  unfold tDrop
  rw [if_neg (by omega), Int.toNat_natCast]
  cases hh : (aGet (A k) s).isSome with
  | true => rfl
  | false =>
    have : aDel (A k) s = A k := by
      unfold aDel
      refine List.filter_eq_self.2 fun p hp => ?_
      cases he : (p.1 == s) with
      | false => rfl
      | true =>
        exfalso
        have hf : (aGet (A k) s).isSome = true := by
          unfold aGet
          rw [Option.isSome_map, List.find?_isSome]
          exact ⟨p, hp, he⟩
        rw [hh] at hf; cases hf
    rw [this]
    exact (upd_same A k).symm
def dropAll (A : Wishes) (who : Int) : List (ByteArray × Int) → Wishes
  | [] => A
  | p :: r => dropAll (tDrop A who p.1).2 who r
theorem dropAll_snoc (who : Int) (q : ByteArray × Int) : ∀ (l : List (ByteArray × Int)) (A : Wishes), dropAll A who (l ++ [q]) = (tDrop (dropAll A who l) who q.1).2
  | [], _ => rfl
  | _ :: r, _ => dropAll_snoc who q r _
theorem dropAll_known {k : Nat} (hk : k < 8) : ∀ (R : List (ByteArray × Int)) (A : Wishes), dropAll A k R = upd A k ((A k).filter fun p => R.all fun r => !(p.1 == r.1))
  | [], A => by
    have : (A k).filter (fun p => ([] : List (ByteArray × Int)).all fun r => !(p.1 == r.1)) = A k := List.filter_eq_self.2 fun _ _ => rfl
    rw [this, upd_same]; rfl
  | q :: R, A => by
    show dropAll (tDrop A k q.1).2 k R = _
    rw [dropAll_known hk R, tDrop_known hk, upd_get, upd_upd]
    congr 1
    unfold aDel
    rw [List.filter_filter]
    refine List.filter_congr fun p _ => ?_
    rw [List.all_cons, Bool.and_comm]
def tClear (A : Wishes) (who : Int) : Nat × Wishes := if who < 0 ∨ 8 ≤ who then (0, A) else ((A who.toNat).length, upd A who.toNat [])
theorem clear_is {A : Wishes} {who : Int} {R : List (ByteArray × Int)} (h : tOf A who R) : (R.length, dropAll A who R) = tClear A who := by
  unfold tOf at h
  unfold tClear
  by_cases hk : who < 0 ∨ 8 ≤ who
  · rw [if_pos hk] at h ⊢
    subst h; rfl
  · rw [if_neg hk] at h ⊢
    obtain ⟨k, rfl, hk8⟩ := int_nat hk
    rw [Int.toNat_natCast] at h ⊢
    rw [dropAll_known hk8, h.1.length_eq]
    congr 2
    refine List.filter_eq_nil_iff.2 fun p hp => ?_
    have := h.1.symm.subset hp
    simp only [List.all_eq_true, Bool.not_eq_true', beq_eq_false_iff_ne, ne_eq]
    exact fun hall => hall p this rfl

set_option maxRecDepth 100000 in
set_option maxHeartbeats 4000000 in
theorem tclear_any (t : Nat) (F : List Nat) (A : Wishes) (who : Int) (w : World) (h : TrieF w t F A) :
    Calls Tryz.prog 20 #[.pointer (some ⟨t, 0, none⟩), .int .i64 who] w fun e w' => e = .returned (.int .i64 (tClear A who).1) ∧ TrieF w' t F (tClear A who).2 ∧ Own F w w' := by
  have cO := tof_any t F A who w h
  have hcap := h.cap
  have hlt := h.lt
  have hTF := fun W (ho : Own [] w W) => h.nil' ho
  have hfl := h.filt
  replace cO := Lib.hid cO
  replace hTF := Lib.hid hTF
  replace hcap := Lib.hid hcap
  replace hfl := Lib.hid hfl
  replace hlt := Lib.hid hlt
  clear h
  go_enter Tryz.func20, Tryz.ntmps20
  go_wp2_with fail
  refine cO.out.mono ?_
  rintro e w2 ⟨v, R, rfl, hR, hS, hO2⟩
  have hRl := tOf_len hcap.out hR
  have hcl := clear_is hR
  have hsz : ∀ p ∈ R, p.1.size ≤ 1048576 := fun p hp => by
    unfold tOf at hR
    split at hR
    · subst hR; cases hp
    · have := lvSized_pos (lvFilter_sized (hfl.out _ p (hR.1.subset hp)).1)
      omega
  have hT2 := hTF.out w2 hO2
  obtain ⟨av, cv, rfl⟩ := hS.sl
  have hbl := fun g hg => (hS.block (g := g) hg).1
  obtain ⟨n, hn⟩ : ∃ n, R.length = n := ⟨_, rfl⟩
  rw [hn] at hRl
  have hRd := hS.reads fEnc_len
  rw [hn] at hRd hbl ⊢
  rw [hn] at hcl
  replace hn := Lib.hid hn
  replace hcl := Lib.hid hcl
  replace hsz := Lib.hid hsz
  replace hT2 := Lib.hid hT2
  replace hO2 := Lib.hid hO2
  replace hRd := Lib.hid hRd
  replace hbl := Lib.hid hbl
  clear hR hS
  go_wp2_with fail
  go_loopg [7, 13] (n + 1) (fun g s7 s13 wr => ∃ i : Nat, s13 = .int .i64 i ∧ g = n + 1 - i ∧ i ≤ n ∧ Aside (TrieF wr t F (dropAll A who (R.take i)) ∧ Own F w2 wr))
  case atStart => exact ⟨0, rfl, rfl, Nat.zero_le _, hT2.out, Own.refl _ _⟩
  case round =>
    obtain ⟨i, rfl, hg, hi, hTr, hOr⟩ := hrel
    have hw1 : IntKind.i64.wrap ((i : Int) + 1) = (i : Int) + 1 := IntWalk.i64_in _ (by omega)
    by_cases hlt2 : i < n
    · have hlr : i < R.length := by have := hn.out; omega
      obtain ⟨x, hx⟩ : ∃ x, R[i]? = some x := ⟨_, List.getElem?_eq_getElem hlr⟩
      have hxs := hsz.out x (List.mem_of_getElem? hx)
      have hRr := hRd.out.own hOr (fun b hb hx => by have := hbl.out b hb; have := hlt.out b hx; omega)
      rw [← hn.out] at hRr
      obtain ⟨b0, o0, rfl, hca⟩ := hRr.at_ fEnc_len (by omega)
      obtain ⟨x1, x2⟩ := x
      have d0 : wr.cell? ⟨b0, o0 + i * 2, none⟩ = some (.string x1) := by simpa using hca i _ 0 _ hx rfl
      have d1 : wr.cell? ⟨b0, o0 + i * 2 + 1, none⟩ = some (.int .i64 x2) := by rw [Nat.add_assoc]; exact hca i _ 1 _ hx rfl
      have hA3 : Own [] wr (wr.alloc (.cells #[.string x1, .int .i64 x2] 32)) := (Own.refl _ _).alloc _
      have cD := tdrop2_any t F _ who x1 _ (hTr.nil' hA3) hxs
      have hnext : (tDrop (dropAll A who (R.take i)) who x1).2 = dropAll A who (R.take (i + 1)) := by
        obtain ⟨hi2, hx2⟩ := List.getElem?_eq_some_iff.1 hx
        rw [List.take_succ_eq_append_getElem hi2, dropAll_snoc, hx2]
      rw [hnext] at cD
      have hO3 := hOr.trans hA3.nil
      have hi1 : (i : Int) < n := by omega
      have hi0 : (0 : Int) ≤ i := by omega
      generalize (tDrop (dropAll A who (R.take i)) who x1).1 = bb at cD
      replace cD := Lib.hid cD
      replace hO3 := Lib.hid hO3
      replace hg := Lib.hid hg
      clear hca hRr hx hlr hTr hOr hnext
      go_wp2_with (go_at_call 18; refine cD.out.mono ?_; rintro e w5 ⟨rfl, hT5, hO5⟩; replace hT5 := Lib.hid hT5; replace hO5 := Lib.hid hO5)
      go_roundg (n + 1 - (i + 1))
      case measure => have := hg.out; omega
      case rel => exact ⟨i + 1, by simp, rfl, by omega, hT5.out, hO3.out.trans hO5.out⟩
    · obtain rfl : i = n := by omega
      have hi1 : ¬ (i : Int) < i := by omega
      rw [List.take_of_length_le (by have := hn.out; omega)] at hTr
      have h1 : (i : Nat) = (tClear A who).1 := congrArg Prod.fst hcl.out
      have h2 : dropAll A who R = (tClear A who).2 := congrArg Prod.snd hcl.out
      rw [h2] at hTr
      have hend : TrieF wr t F (tClear A who).2 ∧ Own F w wr := ⟨hTr, hO2.out.nil.trans hOr⟩
      replace hend := Lib.hid hend
      replace hg := Lib.hid hg
      replace h1 := Lib.hid h1
      clear hTr hOr h2
      go_wp2_with fail
      go_ret
      exact ⟨by rw [← h1.out]; rfl, hend.out⟩
end Go.Proofs.YtldagaliddgdjaaGreatDoor
