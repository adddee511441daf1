/- The document's hosts (crierref34): what Take does to them. -/
import Derived.Test.YtnodacfhkgkliaaHostAll
import Derived.Deep.LoopGhost
import Derived.Deep.Upon
namespace Go.Proofs.Ytnodacfhkgkliaa
open Go.RowKit Go.Sort Go.Lib

/-! ### plain -/
def rBelow (r : HSt) (n : ByteArray) : Nat := (r.takeWhile fun p => sless p.1 n).length
def rIns (r : HSt) (n : ByteArray) (on : Bool) : HSt := r.take (rBelow r n) ++ [(n, on)] ++ r.drop (rBelow r n)
def rPut (r : HSt) (n : ByteArray) (on : Bool) : Int × HSt :=
  match r[rBelow r n]? with
  | some p => if p.1.toList == n.toList then (1, r.set (rBelow r n) (n, on)) else if 4 ≤ r.length then (8, r) else (1, rIns r n on)
  | none => if 4 ≤ r.length then (8, r) else (1, rIns r n on)
def rTake' (r : HSt) (n t : ByteArray) : Int × HSt :=
  if n.toList = [] then (7, r)
  else if t.toList = upB then rPut r n true
  else if t.toList = downB then rPut r n false
  else (3, r)
theorem rBelow_le (r : HSt) (n : ByteArray) : rBelow r n ≤ r.length := (List.takeWhile_prefix _).length_le
theorem rBelow_lt {r : HSt} {n : ByteArray} {k : Nat} (h : k < rBelow r n) : ∃ p, r[k]? = some p ∧ sless p.1 n = true := by
  have hk : k < (r.takeWhile fun p => sless p.1 n).length := h
  refine ⟨(r.takeWhile fun p => sless p.1 n)[k], ?_, List.all_eq_true.1 (List.all_takeWhile (p := fun p => sless p.1 n) (l := r)) _ (List.getElem_mem hk)⟩
  obtain ⟨s, hs⟩ := List.takeWhile_prefix (p := fun p => sless p.1 n) (l := r)
  have e : ((r.takeWhile fun p => sless p.1 n) ++ s)[k]? = some (r.takeWhile fun p => sless p.1 n)[k] := by
    rw [List.getElem?_append_left hk]
    exact List.getElem?_eq_getElem hk
  rwa [hs] at e
theorem rBelow_at {r : HSt} {n : ByteArray} {p : ByteArray × Bool} (h : r[rBelow r n]? = some p) : sless p.1 n = false := by
  unfold rBelow at h
  induction r with
  | nil => simp at h
  | cons q r ih =>
    cases hq : sless q.1 n
    · simp [hq] at h
      rw [← h]; exact hq
    · simp [hq] at h
      exact ih h

/-! ### in memory -/
structure RefH (w : World) (xb : Nat) (v : Value) (r : HSt) : Prop where
  row : w.heap[xb]? = some (.cells #[v] 36 (0, 0))
  own : w.ownsRow 0 39 2 v r.length (rowOf hEnc r)
  ne : v.ownBlock ≠ some xb
def RefPost (w : World) (xb : Nat) (v : Value) (r : Int × HSt) (e : Ending) (w' : World) : Prop :=
  e = .returned (.int .i64 r.1) ∧ ∃ v', RefH w' xb v' r.2 ∧ Own (xb :: v.ownBlock.toList) w w' ∧ (v'.ownBlock = v.ownBlock ∨ ∃ g, v'.ownBlock = some g ∧ w.heap.size ≤ g)
theorem add_any (b o j : Nat) : (⟨b, o, none⟩ : Addr).add j = ⟨b, o + j, none⟩ := by unfold Addr.add; split <;> simp_all
theorem grown_any {w w' : World} {row : Option Nat} (h : w.grownBy w' row) : Own row.toList w w' :=
  ⟨h.os, h.tape, h.output, h.size, fun k hk hn => h.block k hk (by cases row with | none => simp | some g => simpa using hn)⟩
/-- What the three appends leave. -/
theorem ins_end {xb g cap : Nat} {r : HSt} {w w5 : World} {n : ByteArray} {on : Bool} {k N : Nat} {v2 v3 : Value} (hrow : w.heap[xb]? = some (.cells #[.slice (some ⟨g, 0, none⟩) N cap] 36 (0, 0)))
    (hO : Own [] w w5) (hown : w5.ownsRow 0 39 2 v3 (0 + k + 1 + (N - k)) ([] ++ rowOf hEnc (r.take k) ++ [.string n, .bool on] ++ rowOf hEnc (r.drop k))) (hN : r.length = N) (hk : k ≤ N)
    (hv2 : v2 ≠ .slice none 0 0) (hnil : v3 = .slice none 0 0 ↔ v2 = .slice none 0 0 ∧ N - k = 0) (hb : ∃ g3, v3.ownBlock = some g3 ∧ w.heap.size ≤ g3) (v : Value) :
    ∃ v', RefH (w5.setCell ⟨xb, 0, none⟩ v3) xb v' (r.take k ++ [(n, on)] ++ r.drop k) ∧ Own (xb :: v.ownBlock.toList) w (w5.setCell ⟨xb, 0, none⟩ v3) ∧ (v'.ownBlock = v.ownBlock ∨ ∃ g, v'.ownBlock = some g ∧ w.heap.size ≤ g) := by
  have e : [] ++ rowOf hEnc (r.take k) ++ [.string n, .bool on] ++ rowOf hEnc (r.drop k) = rowOf hEnc (r.take k ++ [(n, on)] ++ r.drop k) := by simp [rowOf, hEnc]
  rw [e] at hown
  have hlen : 0 + k + 1 + (N - k) = (r.take k ++ [(n, on)] ++ r.drop k).length := by simp; omega
  obtain ⟨g3, cap3, rfl, hR⟩ := owned_row hown hlen (fun e => hv2 (hnil.1 e).1)
  obtain ⟨g4, hg4, hge⟩ := hb
  simp only [Value.ownBlock, Option.some.injEq] at hg4
  subst hg4
  have hxl := lt_of_heap hrow
  have hne : g3 ≠ xb := by omega
  have hO2 : Own [xb] w5 (w5.setCell ⟨xb, 0, none⟩ (.slice (some ⟨g3, 0, none⟩) (r.take k ++ [(n, on)] ++ r.drop k).length cap3)) := (Own.refl _ _).setCell (by simp) _
  refine ⟨_, ⟨heap_setCell_same _ _ _ _ _ _ (hO.heap hrow (by simp)), (hR.own hO2 (by simpa using hne)).owns hEnc_len, by simpa [Value.ownBlock] using hne⟩, (hO.nil.trans hO2).mono (by simp), .inr ⟨g3, rfl, hge⟩⟩
theorem row_head {w : World} {g cap : Nat} {r : HSt} (hR : Row 39 hEnc 2 w g cap r) (K : Nat) : ∀ j u, (rowOf hEnc (r.take K))[j]? = some u → w.cell? ⟨g, j, none⟩ = some u := fun j u hu => by
  have hj := (List.getElem?_eq_some_iff.1 hu).1
  have e : (rowOf hEnc r)[j]? = some u := by
    conv => lhs; rw [← List.take_append_drop K r, rowOf_append]
    rw [List.getElem?_append_left hj]; exact hu
  refine hR.flat e ?_
  rw [← rowOf_len hEnc_len]
  exact (List.getElem?_eq_some_iff.1 e).1
theorem row_tail {w : World} {g cap : Nat} {r : HSt} (hR : Row 39 hEnc 2 w g cap r) {K : Nat} (hK : K ≤ r.length) : ∀ j u, (rowOf hEnc (r.drop K))[j]? = some u → w.cell? ⟨g, K * 2 + j, none⟩ = some u := fun j u hu => by
  have hl : (rowOf hEnc (r.take K)).length = K * 2 := by rw [rowOf_len hEnc_len, List.length_take_of_le hK]
  have e : (rowOf hEnc r)[K * 2 + j]? = some u := by
    conv => lhs; rw [← List.take_append_drop K r, rowOf_append]
    rw [List.getElem?_append_right (by omega), hl, Nat.add_sub_cancel_left]; exact hu
  refine hR.flat e ?_
  rw [← rowOf_len hEnc_len]
  exact (List.getElem?_eq_some_iff.1 e).1
theorem row_set {w : World} {g cap : Nat} {r : HSt} (h : Row 39 hEnc 2 w g cap r) {k : Nat} {p : ByteArray × Bool} {n : ByteArray} (on : Bool) (hp : r[k]? = some p) (he : p.1 = n) :
    Row 39 hEnc 2 (w.setCell ⟨g, k * 2 + 1, none⟩ (.bool on)) g cap (r.set k (n, on)) := by
  obtain ⟨cur, hb, h1, h2, h3, h4⟩ := h
  have hk : k < r.length := (List.getElem?_eq_some_iff.1 hp).1
  refine ⟨_, heap_setCell_same _ _ _ _ _ _ hb, by simpa using h1, h2, by simp [h3], ?_⟩
  apply List.ext_getElem?
  intro t
  simp only [List.length_set]
  by_cases ht : t < r.length * 2
  · rw [List.getElem?_take_of_lt ht, Array.getElem?_toList, Array.getElem?_setIfInBounds]
    have hi : t / 2 < r.length := by omega
    have hi2 : t / 2 < (r.set k (n, on)).length := by simpa using hi
    have hold : cur[t]? = (hEnc r[t / 2])[t % 2]? := by
      have e := rowOf_get hEnc_len r (t / 2) (t % 2) r[t / 2] (List.getElem?_eq_getElem hi) (by omega)
      rw [Nat.div_add_mod' t 2, ← h4, List.getElem?_take_of_lt ht, Array.getElem?_toList] at e
      exact e
    have hnew := rowOf_get hEnc_len (r.set k (n, on)) (t / 2) (t % 2) (r.set k (n, on))[t / 2] (List.getElem?_eq_getElem hi2) (by omega)
    rw [Nat.div_add_mod' t 2] at hnew
    rw [hnew, List.getElem_set]
    have htc : t < cur.size := by rw [h3]; have := Nat.mul_le_mul_right 2 h1; omega
    by_cases hik : k = t / 2
    · rw [if_pos hik]
      have hpk : r[t / 2] = p := by
        have hp' := hp
        rw [hik, List.getElem?_eq_getElem hi] at hp'
        simpa using hp'
      rcases Nat.mod_two_eq_zero_or_one t with h0 | h5
      · rw [if_neg (by omega), hold, hpk, h0]
        simp [hEnc, he]
      · rw [if_pos (by omega), if_pos (by omega), h5]
        simp [hEnc]
    · rw [if_neg hik, if_neg (by omega), hold]
  · rw [List.getElem?_eq_none (by simp; omega), List.getElem?_eq_none (by rw [rowOf_len hEnc_len]; simp; omega)]
theorem ref_bad (xb : Nat) (v : Value) (r : HSt) (w : World) (n t : ByteArray) (h : RefH w xb v r) (hx : n.toList = [] ∨ (n.toList ≠ [] ∧ t.toList ≠ upB ∧ t.toList ≠ downB)) :
    Calls Try.prog 12 #[.pointer (some ⟨xb, 0, none⟩), .string n, .string t] w (RefPost w xb v (rTake' r n t)) := by
  rcases hx with hx | ⟨hn, hu, hd⟩
  · have hr : rTake' r n t = (7, r) := by simp [rTake', hx]
    rw [hr]
    have hb : n.toList.isEmpty = true := by simp [hx]
    replace h := Lib.hid h
    clear hx hr
    go_enter Try.func12, Try.ntmps12
    go_wp2_with fail
    go_ret
    exact ⟨rfl, v, h.out, Own.refl _ _, .inl rfl⟩
  · have hr : rTake' r n t = (3, r) := by simp [rTake', hn, hu, hd]
    rw [hr]
    have hb : n.toList.isEmpty = false := by simpa using hn
    have hu' : (t.toList == [79, 78, 76, 73, 78, 69]) = false := by simpa [upB] using hu
    have hd' : (t.toList == [79, 70, 70, 76, 73, 78, 69]) = false := by simpa [downB] using hd
    replace h := Lib.hid h
    clear hr hn hu hd
    go_enter Try.func12, Try.ntmps12
    go_wp2_with fail
    go_ret
    exact ⟨rfl, v, h.out, Own.refl _ _, .inl rfl⟩

set_option maxRecDepth 100000 in
set_option maxHeartbeats 4000000 in
theorem ref_own (xb g cap : Nat) (r : HSt) (w : World) (n t : ByteArray) (on : Bool) (hrow : w.heap[xb]? = some (.cells #[.slice (some ⟨g, 0, none⟩) r.length cap] 36 (0, 0))) (hR : Row 39 hEnc 2 w g cap r) (hne : g ≠ xb)
    (hl4 : r.length ≤ 4) (hn : n.toList.isEmpty = false) (hu : (t.toList == [79, 78, 76, 73, 78, 69]) = on) (hd : on = false → (t.toList == [79, 70, 70, 76, 73, 78, 69]) = true) :
    Calls Try.prog 12 #[.pointer (some ⟨xb, 0, none⟩), .string n, .string t] w (RefPost w xb (.slice (some ⟨g, 0, none⟩) r.length cap) (rPut r n on)) := by
  have c0 : w.cell? ⟨xb, 0, none⟩ = some (.slice (some ⟨g, 0, none⟩) r.length cap) := cell_of_row w xb 0 _ _ _ hrow
  have hcap : r.length ≤ cap := by obtain ⟨_, _, h, _⟩ := hR; exact h
  have hble := rBelow_le r n
  have hlb := fun k (h : k < rBelow r n) => rBelow_lt h
  have hat := fun p (h : r[rBelow r n]? = some p) => rBelow_at h
  replace hlb := Lib.hid hlb
  replace hat := Lib.hid hat
  replace hrow := Lib.hid hrow
  generalize hP : rPut r n on = res
  unfold rPut rIns at hP
  generalize hK : rBelow r n = K at *
  generalize hN : r.length = N at *
  replace hK := Lib.hid hK
  replace hN := Lib.hid hN
  replace hP := Lib.hid hP
  replace hR := Lib.hid hR
  cases on
  · have hd' := hd rfl
    clear hd
    go_enter Try.func12, Try.ntmps12
    go_wp2_with fail
    go_loopg [7] (K + 1) (fun gk i wr => ∃ k : Nat, k ≤ K ∧ gk = K + 1 - k ∧ i = .int .i64 k ∧ wr = w)
    case atStart => exact ⟨0, by omega, rfl, rfl, rfl⟩
    case round =>
      obtain ⟨k, hk, rfl, rfl, rfl⟩ := hrel
      by_cases hkK : k < K
      · obtain ⟨p, hp, hs⟩ := hlb.out k hkK
        have e0 : wr.cell? ⟨g, k * 2, none⟩ = some (.string p.1) := hR.out.cell hEnc_len hp (c := 0) rfl
        have hkN : k < N := by omega
        have hs' : Op.bytesLess p.1.toList n.toList = true := hs
        clear hp hs
        go_wp2_with fail
        go_roundg (K + 1 - (k + 1))
        case measure => omega
        case rel => exact ⟨k + 1, by omega, rfl, by go_num, rfl⟩
      · obtain rfl : k = K := by omega
        have hgl := hR.out.lt
        obtain ⟨i0, hi, hz0, hz1, hz2⟩ := info_parts viewInfo
        by_cases hKN : k < N
        · obtain ⟨p, hp⟩ : ∃ p, r[k]? = some p := ⟨_, List.getElem?_eq_getElem (by have := hN.out; omega)⟩
          have hs := hat.out p hp
          have e0 : wr.cell? ⟨g, k * 2, none⟩ = some (.string p.1) := hR.out.cell hEnc_len hp (c := 0) rfl
          have e1 : wr.cell? ⟨g, k * 2 + 1, none⟩ = some (.bool p.2) := hR.out.cell hEnc_len hp (c := 1) rfl
          have f1 : wr.frozen? ⟨g, k * 2 + 1, none⟩ = false := hR.out.frozen _
          have hs' : Op.bytesLess p.1.toList n.toList = false := hs
          have hP' := hP.out
          rw [hp] at hP'
          simp only at hP'
          replace hp := Lib.hid hp
          clear hs
          cases hnm : (p.1.toList == n.toList)
          · rw [hnm] at hP'
            simp only [Bool.false_eq_true, if_false] at hP'
            by_cases hfull : 4 ≤ N
            · rw [if_pos hfull] at hP'
              subst hP'
              have hfz : (4 : Int) ≤ (N : Int) := by omega
              clear hfull
              go_wp2_with fail
              go_ret
              exact ⟨rfl, _, ⟨hrow.out, by rw [← hN.out]; exact hR.out.owns hEnc_len, by simpa [Value.ownBlock] using hne⟩, Own.refl _ _, .inl rfl⟩
            · rw [if_neg hfull] at hP'
              subst hP'
              have hfz : ¬ (4 : Int) ≤ (N : Int) := by omega
              have hA : Own [] wr (wr.alloc (.cells #[] 39)) := (Own.refl _ _).alloc _
              have hown := owns_empty (T := 39) (k := 2) wr
              have hn1 : ∀ j u, (rowOf hEnc (r.take k))[j]? = some u → (wr.alloc (.cells #[] 39)).cell? ((⟨g, 0, none⟩ : Addr).add j) = some u := fun j u hu => by
                rw [add_zero, hA.cell (p := ⟨g, j, none⟩) hgl (by simp)]; exact row_head hR.out k j u hu
              have hl1 : (rowOf hEnc (r.take k)).length = k * 2 := by rw [rowOf_len hEnc_len, List.length_take_of_le (by have := hN.out; omega)]
              have ho1 := hEnc_one (r.take k)
              have hl2 : (rowOf hEnc (r.drop k)).length = (N - k) * 2 := by rw [rowOf_len hEnc_len, List.length_drop, hN.out]
              have ho2 := hEnc_one (r.drop k)
              have hxl := lt_of_heap hrow.out
              have hn3 := fun (w4 : World) (ho : Own [] wr w4) => fun j u hu => (congrArg w4.cell? (add_any g (k * 2) j)).trans ((ho.cell (p := ⟨g, k * 2 + j, none⟩) hgl (by simp)).trans (row_tail hR.out (K := k) (by have := hN.out; omega) j u hu))
              replace hA := Lib.hid hA
              replace hown := Lib.hid hown
              replace hn1 := Lib.hid hn1
              replace hl1 := Lib.hid hl1
              replace ho1 := Lib.hid ho1
              replace hl2 := Lib.hid hl2
              replace ho2 := Lib.hid ho2
              replace hn3 := Lib.hid hn3
              go_wp2_with (first
                | (at_builtin; refine wpList_append_own_at _ rfl (.tmp 72) (.tmp 78) 34 rfl 0 39 i0 _ 2 24 Try.underlying34 hi hz0 hz1 hz2 rfl (by omega) (.slice (some ⟨wr.heap.size, 0, none⟩) 0 0) 0 [] rfl hown.out ⟨g, 0, none⟩ k cap (rowOf hEnc (r.take k)) rfl hl1.out hn1.out ho1.out (by unfold maxLen; omega) (by omega) (Nat.zero_le _) ?_; intro v1 w2 hown1 hgrow1 hnil1 hat1; have hO1 := hA.out.trans' (grown_own hgrow1 rfl) (fun z hz => by simp at hz; right; omega); have d0 := (hO1.cell (p := ⟨xb, 0, none⟩) hxl (by simp)).trans c0; have hv1 : v1 ≠ .slice none 0 0 := fun e => (by have := (hnil1.1 e).1; simp at this); have hb1 : ∃ g1, v1.ownBlock = some g1 ∧ wr.heap.size ≤ g1 := (by rcases hat1 with h | h; exact ⟨_, h, Nat.le_refl _⟩; exact ⟨_, h, by simp⟩); replace hO1 := Lib.hid hO1; replace hown1 := Lib.hid hown1; replace hgrow1 := Lib.hid hgrow1; replace hat1 := Lib.hid hat1; replace hb1 := Lib.hid hb1; replace hv1 := Lib.hid hv1; replace hnil1 := Lib.hid hnil1)
                | (at_builtin; refine wpList_append_own_at _ rfl (.tmp 80) (.tmp 85) 34 rfl 0 39 i0 _ 2 24 Try.underlying34 hi hz0 hz1 hz2 rfl (by omega) v1 (0 + k) ([] ++ rowOf hEnc (r.take k)) rfl (hown1.out.alloc _) ⟨w2.heap.size, 0, none⟩ 1 1 [.string n, .bool false] rfl rfl (World.news_of_block (heap_alloc_new w2 (.cells #[.string n, .bool false] 39))) (by intro u hu; simp at hu; rcases hu with rfl | rfl <;> rfl) (by unfold maxLen; omega) (by omega) (Nat.zero_le _) ?_; intro v2 w4 hown2 hgrow2 hnil2 hat2; have hO2 : Own [] wr w4 := ((hO1.out.alloc _).trans' (grown_any hgrow2) (fun z hz => by obtain ⟨g1, hg1, hge⟩ := hb1.out; rw [hg1] at hz; simp at hz; subst hz; exact .inr hge)); have d1 := (hO2.cell (p := ⟨xb, 0, none⟩) hxl (by simp)).trans c0; have hb2 : ∃ g1, v2.ownBlock = some g1 ∧ wr.heap.size ≤ g1 := (by rcases hat2 with h | h; exact h ▸ hb1.out; exact ⟨_, h, by have := hO1.out.size; simp; omega⟩); have hv2 : v2 ≠ .slice none 0 0 := (fun e => by have := (hnil2.1 e).2; omega); replace hO2 := Lib.hid hO2; replace hown2 := Lib.hid hown2; replace hgrow2 := Lib.hid hgrow2; replace hat2 := Lib.hid hat2; replace hb2 := Lib.hid hb2; replace hv2 := Lib.hid hv2; replace hnil2 := Lib.hid hnil2)
                | (at_builtin; refine wpList_append_own_at _ rfl (.tmp 87) (.tmp 93) 34 rfl 0 39 i0 _ 2 24 Try.underlying34 hi hz0 hz1 hz2 rfl (by omega) v2 (0 + k + 1) ([] ++ rowOf hEnc (r.take k) ++ [.string n, .bool false]) rfl hown2.out ⟨g, k * 2, none⟩ (N - k) (cap - k) (rowOf hEnc (r.drop k)) rfl hl2.out (hn3.out _ hO2.out) ho2.out (by unfold maxLen; omega) (by omega) (Nat.zero_le _) ?_; intro v3 w5 hown3 hgrow3 hnil3 hat3; obtain ⟨g3, cap3, rfl, _, _⟩ := hown3.form (by omega); have hO3 : Own [] wr w5 := (hO2.out.trans' (grown_any hgrow3) (fun z hz => by obtain ⟨g1, hg1, hge⟩ := hb2.out; rw [hg1] at hz; simp at hz; subst hz; exact .inr hge)); have d2 := (hO3.cell (p := ⟨xb, 0, none⟩) hxl (by simp)).trans c0; have f2 : w5.frozen? ⟨xb, 0, none⟩ = false := (frozen_of_row w5 xb 0 _ _ (hO3.heap hrow.out (by simp))); have hb3 : ∃ g1, Value.ownBlock (.slice (some ⟨g3, 0, none⟩) (0 + k + 1 + (N - k)) cap3) = some g1 ∧ wr.heap.size ≤ g1 := (by rcases hat3 with h | h; exact h ▸ hb2.out; exact ⟨_, h, hO2.out.size⟩); replace hO3 := Lib.hid hO3; replace hown3 := Lib.hid hown3; replace hb3 := Lib.hid hb3; replace hnil3 := Lib.hid hnil3; clear hgrow3 hat3))
              go_ret
              exact ⟨rfl, by simpa using ins_end hrow.out hO3.out hown3.out hN.out (by omega) hv2.out hnil3.out hb3.out (.slice (some ⟨g, 0, none⟩) N cap)⟩
          · rw [hnm] at hP'
            simp only [if_true] at hP'
            subst hP'
            go_wp2_with fail
            go_ret
            refine ⟨rfl, _, ⟨?_, ?_, by simpa [Value.ownBlock] using hne⟩, (Own.refl _ _).setCell (by simp [Value.ownBlock]) _, .inl rfl⟩
            · rw [heap_setCell_other _ _ _ _ (by simpa using Ne.symm hne)]; exact hrow.out
            · have := (row_set hR.out false hp.out (toList_inj (by simpa using hnm))).owns hEnc_len
              simpa [hN.out] using this
        · have hP' := hP.out
          have hnone : r[k]? = none := List.getElem?_eq_none (by have := hN.out; omega)
          rw [hnone] at hP'
          simp only at hP'
          clear hnone
          by_cases hfull : 4 ≤ N
          · rw [if_pos hfull] at hP'
            subst hP'
            have hfz : (4 : Int) ≤ (N : Int) := by omega
            clear hfull
            go_wp2_with fail
            go_ret
            exact ⟨rfl, _, ⟨hrow.out, by rw [← hN.out]; exact hR.out.owns hEnc_len, by simpa [Value.ownBlock] using hne⟩, Own.refl _ _, .inl rfl⟩
          · rw [if_neg hfull] at hP'
            subst hP'
            have hfz : ¬ (4 : Int) ≤ (N : Int) := by omega
            rcases Nat.lt_or_ge k cap with hck | hck
            all_goals
              have hA : Own [] wr (wr.alloc (.cells #[] 39)) := (Own.refl _ _).alloc _
              have hown := owns_empty (T := 39) (k := 2) wr
              have hn1 : ∀ j u, (rowOf hEnc (r.take k))[j]? = some u → (wr.alloc (.cells #[] 39)).cell? ((⟨g, 0, none⟩ : Addr).add j) = some u := fun j u hu => by
                rw [add_zero, hA.cell (p := ⟨g, j, none⟩) hgl (by simp)]; exact row_head hR.out k j u hu
              have hl1 : (rowOf hEnc (r.take k)).length = k * 2 := by rw [rowOf_len hEnc_len, List.length_take_of_le (by have := hN.out; omega)]
              have ho1 := hEnc_one (r.take k)
              have hl2 : (rowOf hEnc (r.drop k)).length = (N - k) * 2 := by rw [rowOf_len hEnc_len, List.length_drop, hN.out]
              have ho2 := hEnc_one (r.drop k)
              have hxl := lt_of_heap hrow.out
              have hn4 : ∀ (w4 : World) (ad : Addr), ∀ j u, (rowOf hEnc (r.drop k))[j]? = some u → w4.cell? (ad.add j) = some u := fun w4 ad j u hu => by
                have h9 := (List.getElem?_eq_some_iff.1 hu).1
                rw [hl2] at h9
                omega
              replace hA := Lib.hid hA
              replace hown := Lib.hid hown
              replace hn1 := Lib.hid hn1
              replace hl1 := Lib.hid hl1
              replace ho1 := Lib.hid ho1
              replace hl2 := Lib.hid hl2
              replace ho2 := Lib.hid ho2
              replace hn4 := Lib.hid hn4
              go_wp2_with (first
                | (at_builtin; refine wpList_append_own_at _ rfl (.tmp 72) (.tmp 78) 34 rfl 0 39 i0 _ 2 24 Try.underlying34 hi hz0 hz1 hz2 rfl (by omega) (.slice (some ⟨wr.heap.size, 0, none⟩) 0 0) 0 [] rfl hown.out ⟨g, 0, none⟩ k cap (rowOf hEnc (r.take k)) rfl hl1.out hn1.out ho1.out (by unfold maxLen; omega) (by omega) (Nat.zero_le _) ?_; intro v1 w2 hown1 hgrow1 hnil1 hat1; have hO1 := hA.out.trans' (grown_own hgrow1 rfl) (fun z hz => by simp at hz; right; omega); have d0 := (hO1.cell (p := ⟨xb, 0, none⟩) hxl (by simp)).trans c0; have hv1 : v1 ≠ .slice none 0 0 := fun e => (by have := (hnil1.1 e).1; simp at this); have hb1 : ∃ g1, v1.ownBlock = some g1 ∧ wr.heap.size ≤ g1 := (by rcases hat1 with h | h; exact ⟨_, h, Nat.le_refl _⟩; exact ⟨_, h, by simp⟩); replace hO1 := Lib.hid hO1; replace hown1 := Lib.hid hown1; replace hgrow1 := Lib.hid hgrow1; replace hat1 := Lib.hid hat1; replace hb1 := Lib.hid hb1; replace hv1 := Lib.hid hv1; replace hnil1 := Lib.hid hnil1)
                | (at_builtin; refine wpList_append_own_at _ rfl (.tmp 80) (.tmp 85) 34 rfl 0 39 i0 _ 2 24 Try.underlying34 hi hz0 hz1 hz2 rfl (by omega) v1 (0 + k) ([] ++ rowOf hEnc (r.take k)) rfl (hown1.out.alloc _) ⟨w2.heap.size, 0, none⟩ 1 1 [.string n, .bool false] rfl rfl (World.news_of_block (heap_alloc_new w2 (.cells #[.string n, .bool false] 39))) (by intro u hu; simp at hu; rcases hu with rfl | rfl <;> rfl) (by unfold maxLen; omega) (by omega) (Nat.zero_le _) ?_; intro v2 w4 hown2 hgrow2 hnil2 hat2; have hO2 : Own [] wr w4 := ((hO1.out.alloc _).trans' (grown_any hgrow2) (fun z hz => by obtain ⟨g1, hg1, hge⟩ := hb1.out; rw [hg1] at hz; simp at hz; subst hz; exact .inr hge)); have d1 := (hO2.cell (p := ⟨xb, 0, none⟩) hxl (by simp)).trans c0; have hb2 : ∃ g1, v2.ownBlock = some g1 ∧ wr.heap.size ≤ g1 := (by rcases hat2 with h | h; exact h ▸ hb1.out; exact ⟨_, h, by have := hO1.out.size; simp; omega⟩); have hv2 : v2 ≠ .slice none 0 0 := (fun e => by have := (hnil2.1 e).2; omega); replace hO2 := Lib.hid hO2; replace hown2 := Lib.hid hown2; replace hgrow2 := Lib.hid hgrow2; replace hat2 := Lib.hid hat2; replace hb2 := Lib.hid hb2; replace hv2 := Lib.hid hv2; replace hnil2 := Lib.hid hnil2)
                | (at_builtin; refine wpList_append_own_at _ rfl (.tmp 87) (.tmp 93) 34 rfl 0 39 i0 _ 2 24 Try.underlying34 hi hz0 hz1 hz2 rfl (by omega) v2 (0 + k + 1) ([] ++ rowOf hEnc (r.take k) ++ [.string n, .bool false]) rfl hown2.out _ (N - k) _ (rowOf hEnc (r.drop k)) rfl hl2.out (hn4.out _ _) ho2.out (by unfold maxLen; omega) (by omega) (Nat.zero_le _) ?_; intro v3 w5 hown3 hgrow3 hnil3 hat3; obtain ⟨g3, cap3, rfl, _, _⟩ := hown3.form (by omega); have hO3 : Own [] wr w5 := (hO2.out.trans' (grown_any hgrow3) (fun z hz => by obtain ⟨g1, hg1, hge⟩ := hb2.out; rw [hg1] at hz; simp at hz; subst hz; exact .inr hge)); have d2 := (hO3.cell (p := ⟨xb, 0, none⟩) hxl (by simp)).trans c0; have f2 : w5.frozen? ⟨xb, 0, none⟩ = false := (frozen_of_row w5 xb 0 _ _ (hO3.heap hrow.out (by simp))); have hb3 : ∃ g1, Value.ownBlock (.slice (some ⟨g3, 0, none⟩) (0 + k + 1 + (N - k)) cap3) = some g1 ∧ wr.heap.size ≤ g1 := (by rcases hat3 with h | h; exact h ▸ hb2.out; exact ⟨_, h, hO2.out.size⟩); replace hO3 := Lib.hid hO3; replace hown3 := Lib.hid hown3; replace hb3 := Lib.hid hb3; replace hnil3 := Lib.hid hnil3; clear hgrow3 hat3))
              go_ret
              exact ⟨rfl, by simpa using ins_end hrow.out hO3.out hown3.out hN.out (by omega) hv2.out hnil3.out hb3.out (.slice (some ⟨g, 0, none⟩) N cap)⟩
  · clear hd
    go_enter Try.func12, Try.ntmps12
    go_wp2_with fail
    go_loopg [7] (K + 1) (fun gk i wr => ∃ k : Nat, k ≤ K ∧ gk = K + 1 - k ∧ i = .int .i64 k ∧ wr = w)
    case atStart => exact ⟨0, by omega, rfl, rfl, rfl⟩
    case round =>
      obtain ⟨k, hk, rfl, rfl, rfl⟩ := hrel
      by_cases hkK : k < K
      · obtain ⟨p, hp, hs⟩ := hlb.out k hkK
        have e0 : wr.cell? ⟨g, k * 2, none⟩ = some (.string p.1) := hR.out.cell hEnc_len hp (c := 0) rfl
        have hkN : k < N := by omega
        have hs' : Op.bytesLess p.1.toList n.toList = true := hs
        clear hp hs
        go_wp2_with fail
        go_roundg (K + 1 - (k + 1))
        case measure => omega
        case rel => exact ⟨k + 1, by omega, rfl, by go_num, rfl⟩
      · obtain rfl : k = K := by omega
        have hgl := hR.out.lt
        obtain ⟨i0, hi, hz0, hz1, hz2⟩ := info_parts viewInfo
        by_cases hKN : k < N
        · obtain ⟨p, hp⟩ : ∃ p, r[k]? = some p := ⟨_, List.getElem?_eq_getElem (by have := hN.out; omega)⟩
          have hs := hat.out p hp
          have e0 : wr.cell? ⟨g, k * 2, none⟩ = some (.string p.1) := hR.out.cell hEnc_len hp (c := 0) rfl
          have e1 : wr.cell? ⟨g, k * 2 + 1, none⟩ = some (.bool p.2) := hR.out.cell hEnc_len hp (c := 1) rfl
          have f1 : wr.frozen? ⟨g, k * 2 + 1, none⟩ = false := hR.out.frozen _
          have hs' : Op.bytesLess p.1.toList n.toList = false := hs
          have hP' := hP.out
          rw [hp] at hP'
          simp only at hP'
          replace hp := Lib.hid hp
          clear hs
          cases hnm : (p.1.toList == n.toList)
          · rw [hnm] at hP'
            simp only [Bool.false_eq_true, if_false] at hP'
            by_cases hfull : 4 ≤ N
            · rw [if_pos hfull] at hP'
              subst hP'
              have hfz : (4 : Int) ≤ (N : Int) := by omega
              clear hfull
              go_wp2_with fail
              go_ret
              exact ⟨rfl, _, ⟨hrow.out, by rw [← hN.out]; exact hR.out.owns hEnc_len, by simpa [Value.ownBlock] using hne⟩, Own.refl _ _, .inl rfl⟩
            · rw [if_neg hfull] at hP'
              subst hP'
              have hfz : ¬ (4 : Int) ≤ (N : Int) := by omega
              have hA : Own [] wr (wr.alloc (.cells #[] 39)) := (Own.refl _ _).alloc _
              have hown := owns_empty (T := 39) (k := 2) wr
              have hn1 : ∀ j u, (rowOf hEnc (r.take k))[j]? = some u → (wr.alloc (.cells #[] 39)).cell? ((⟨g, 0, none⟩ : Addr).add j) = some u := fun j u hu => by
                rw [add_zero, hA.cell (p := ⟨g, j, none⟩) hgl (by simp)]; exact row_head hR.out k j u hu
              have hl1 : (rowOf hEnc (r.take k)).length = k * 2 := by rw [rowOf_len hEnc_len, List.length_take_of_le (by have := hN.out; omega)]
              have ho1 := hEnc_one (r.take k)
              have hl2 : (rowOf hEnc (r.drop k)).length = (N - k) * 2 := by rw [rowOf_len hEnc_len, List.length_drop, hN.out]
              have ho2 := hEnc_one (r.drop k)
              have hxl := lt_of_heap hrow.out
              have hn3 := fun (w4 : World) (ho : Own [] wr w4) => fun j u hu => (congrArg w4.cell? (add_any g (k * 2) j)).trans ((ho.cell (p := ⟨g, k * 2 + j, none⟩) hgl (by simp)).trans (row_tail hR.out (K := k) (by have := hN.out; omega) j u hu))
              replace hA := Lib.hid hA
              replace hown := Lib.hid hown
              replace hn1 := Lib.hid hn1
              replace hl1 := Lib.hid hl1
              replace ho1 := Lib.hid ho1
              replace hl2 := Lib.hid hl2
              replace ho2 := Lib.hid ho2
              replace hn3 := Lib.hid hn3
              go_wp2_with (first
                | (at_builtin; refine wpList_append_own_at _ rfl (.tmp 72) (.tmp 78) 34 rfl 0 39 i0 _ 2 24 Try.underlying34 hi hz0 hz1 hz2 rfl (by omega) (.slice (some ⟨wr.heap.size, 0, none⟩) 0 0) 0 [] rfl hown.out ⟨g, 0, none⟩ k cap (rowOf hEnc (r.take k)) rfl hl1.out hn1.out ho1.out (by unfold maxLen; omega) (by omega) (Nat.zero_le _) ?_; intro v1 w2 hown1 hgrow1 hnil1 hat1; have hO1 := hA.out.trans' (grown_own hgrow1 rfl) (fun z hz => by simp at hz; right; omega); have d0 := (hO1.cell (p := ⟨xb, 0, none⟩) hxl (by simp)).trans c0; have hv1 : v1 ≠ .slice none 0 0 := fun e => (by have := (hnil1.1 e).1; simp at this); have hb1 : ∃ g1, v1.ownBlock = some g1 ∧ wr.heap.size ≤ g1 := (by rcases hat1 with h | h; exact ⟨_, h, Nat.le_refl _⟩; exact ⟨_, h, by simp⟩); replace hO1 := Lib.hid hO1; replace hown1 := Lib.hid hown1; replace hgrow1 := Lib.hid hgrow1; replace hat1 := Lib.hid hat1; replace hb1 := Lib.hid hb1; replace hv1 := Lib.hid hv1; replace hnil1 := Lib.hid hnil1)
                | (at_builtin; refine wpList_append_own_at _ rfl (.tmp 80) (.tmp 85) 34 rfl 0 39 i0 _ 2 24 Try.underlying34 hi hz0 hz1 hz2 rfl (by omega) v1 (0 + k) ([] ++ rowOf hEnc (r.take k)) rfl (hown1.out.alloc _) ⟨w2.heap.size, 0, none⟩ 1 1 [.string n, .bool true] rfl rfl (World.news_of_block (heap_alloc_new w2 (.cells #[.string n, .bool true] 39))) (by intro u hu; simp at hu; rcases hu with rfl | rfl <;> rfl) (by unfold maxLen; omega) (by omega) (Nat.zero_le _) ?_; intro v2 w4 hown2 hgrow2 hnil2 hat2; have hO2 : Own [] wr w4 := ((hO1.out.alloc _).trans' (grown_any hgrow2) (fun z hz => by obtain ⟨g1, hg1, hge⟩ := hb1.out; rw [hg1] at hz; simp at hz; subst hz; exact .inr hge)); have d1 := (hO2.cell (p := ⟨xb, 0, none⟩) hxl (by simp)).trans c0; have hb2 : ∃ g1, v2.ownBlock = some g1 ∧ wr.heap.size ≤ g1 := (by rcases hat2 with h | h; exact h ▸ hb1.out; exact ⟨_, h, by have := hO1.out.size; simp; omega⟩); have hv2 : v2 ≠ .slice none 0 0 := (fun e => by have := (hnil2.1 e).2; omega); replace hO2 := Lib.hid hO2; replace hown2 := Lib.hid hown2; replace hgrow2 := Lib.hid hgrow2; replace hat2 := Lib.hid hat2; replace hb2 := Lib.hid hb2; replace hv2 := Lib.hid hv2; replace hnil2 := Lib.hid hnil2)
                | (at_builtin; refine wpList_append_own_at _ rfl (.tmp 87) (.tmp 93) 34 rfl 0 39 i0 _ 2 24 Try.underlying34 hi hz0 hz1 hz2 rfl (by omega) v2 (0 + k + 1) ([] ++ rowOf hEnc (r.take k) ++ [.string n, .bool true]) rfl hown2.out ⟨g, k * 2, none⟩ (N - k) (cap - k) (rowOf hEnc (r.drop k)) rfl hl2.out (hn3.out _ hO2.out) ho2.out (by unfold maxLen; omega) (by omega) (Nat.zero_le _) ?_; intro v3 w5 hown3 hgrow3 hnil3 hat3; obtain ⟨g3, cap3, rfl, _, _⟩ := hown3.form (by omega); have hO3 : Own [] wr w5 := (hO2.out.trans' (grown_any hgrow3) (fun z hz => by obtain ⟨g1, hg1, hge⟩ := hb2.out; rw [hg1] at hz; simp at hz; subst hz; exact .inr hge)); have d2 := (hO3.cell (p := ⟨xb, 0, none⟩) hxl (by simp)).trans c0; have f2 : w5.frozen? ⟨xb, 0, none⟩ = false := (frozen_of_row w5 xb 0 _ _ (hO3.heap hrow.out (by simp))); have hb3 : ∃ g1, Value.ownBlock (.slice (some ⟨g3, 0, none⟩) (0 + k + 1 + (N - k)) cap3) = some g1 ∧ wr.heap.size ≤ g1 := (by rcases hat3 with h | h; exact h ▸ hb2.out; exact ⟨_, h, hO2.out.size⟩); replace hO3 := Lib.hid hO3; replace hown3 := Lib.hid hown3; replace hb3 := Lib.hid hb3; replace hnil3 := Lib.hid hnil3; clear hgrow3 hat3))
              go_ret
              exact ⟨rfl, by simpa using ins_end hrow.out hO3.out hown3.out hN.out (by omega) hv2.out hnil3.out hb3.out (.slice (some ⟨g, 0, none⟩) N cap)⟩
          · rw [hnm] at hP'
            simp only [if_true] at hP'
            subst hP'
            go_wp2_with fail
            go_ret
            refine ⟨rfl, _, ⟨?_, ?_, by simpa [Value.ownBlock] using hne⟩, (Own.refl _ _).setCell (by simp [Value.ownBlock]) _, .inl rfl⟩
            · rw [heap_setCell_other _ _ _ _ (by simpa using Ne.symm hne)]; exact hrow.out
            · have := (row_set hR.out true hp.out (toList_inj (by simpa using hnm))).owns hEnc_len
              simpa [hN.out] using this
        · have hP' := hP.out
          have hnone : r[k]? = none := List.getElem?_eq_none (by have := hN.out; omega)
          rw [hnone] at hP'
          simp only at hP'
          clear hnone
          by_cases hfull : 4 ≤ N
          · rw [if_pos hfull] at hP'
            subst hP'
            have hfz : (4 : Int) ≤ (N : Int) := by omega
            clear hfull
            go_wp2_with fail
            go_ret
            exact ⟨rfl, _, ⟨hrow.out, by rw [← hN.out]; exact hR.out.owns hEnc_len, by simpa [Value.ownBlock] using hne⟩, Own.refl _ _, .inl rfl⟩
          · rw [if_neg hfull] at hP'
            subst hP'
            have hfz : ¬ (4 : Int) ≤ (N : Int) := by omega
            rcases Nat.lt_or_ge k cap with hck | hck
            all_goals
              have hA : Own [] wr (wr.alloc (.cells #[] 39)) := (Own.refl _ _).alloc _
              have hown := owns_empty (T := 39) (k := 2) wr
              have hn1 : ∀ j u, (rowOf hEnc (r.take k))[j]? = some u → (wr.alloc (.cells #[] 39)).cell? ((⟨g, 0, none⟩ : Addr).add j) = some u := fun j u hu => by
                rw [add_zero, hA.cell (p := ⟨g, j, none⟩) hgl (by simp)]; exact row_head hR.out k j u hu
              have hl1 : (rowOf hEnc (r.take k)).length = k * 2 := by rw [rowOf_len hEnc_len, List.length_take_of_le (by have := hN.out; omega)]
              have ho1 := hEnc_one (r.take k)
              have hl2 : (rowOf hEnc (r.drop k)).length = (N - k) * 2 := by rw [rowOf_len hEnc_len, List.length_drop, hN.out]
              have ho2 := hEnc_one (r.drop k)
              have hxl := lt_of_heap hrow.out
              have hn4 : ∀ (w4 : World) (ad : Addr), ∀ j u, (rowOf hEnc (r.drop k))[j]? = some u → w4.cell? (ad.add j) = some u := fun w4 ad j u hu => by
                have h9 := (List.getElem?_eq_some_iff.1 hu).1
                rw [hl2] at h9
                omega
              replace hA := Lib.hid hA
              replace hown := Lib.hid hown
              replace hn1 := Lib.hid hn1
              replace hl1 := Lib.hid hl1
              replace ho1 := Lib.hid ho1
              replace hl2 := Lib.hid hl2
              replace ho2 := Lib.hid ho2
              replace hn4 := Lib.hid hn4
              go_wp2_with (first
                | (at_builtin; refine wpList_append_own_at _ rfl (.tmp 72) (.tmp 78) 34 rfl 0 39 i0 _ 2 24 Try.underlying34 hi hz0 hz1 hz2 rfl (by omega) (.slice (some ⟨wr.heap.size, 0, none⟩) 0 0) 0 [] rfl hown.out ⟨g, 0, none⟩ k cap (rowOf hEnc (r.take k)) rfl hl1.out hn1.out ho1.out (by unfold maxLen; omega) (by omega) (Nat.zero_le _) ?_; intro v1 w2 hown1 hgrow1 hnil1 hat1; have hO1 := hA.out.trans' (grown_own hgrow1 rfl) (fun z hz => by simp at hz; right; omega); have d0 := (hO1.cell (p := ⟨xb, 0, none⟩) hxl (by simp)).trans c0; have hv1 : v1 ≠ .slice none 0 0 := fun e => (by have := (hnil1.1 e).1; simp at this); have hb1 : ∃ g1, v1.ownBlock = some g1 ∧ wr.heap.size ≤ g1 := (by rcases hat1 with h | h; exact ⟨_, h, Nat.le_refl _⟩; exact ⟨_, h, by simp⟩); replace hO1 := Lib.hid hO1; replace hown1 := Lib.hid hown1; replace hgrow1 := Lib.hid hgrow1; replace hat1 := Lib.hid hat1; replace hb1 := Lib.hid hb1; replace hv1 := Lib.hid hv1; replace hnil1 := Lib.hid hnil1)
                | (at_builtin; refine wpList_append_own_at _ rfl (.tmp 80) (.tmp 85) 34 rfl 0 39 i0 _ 2 24 Try.underlying34 hi hz0 hz1 hz2 rfl (by omega) v1 (0 + k) ([] ++ rowOf hEnc (r.take k)) rfl (hown1.out.alloc _) ⟨w2.heap.size, 0, none⟩ 1 1 [.string n, .bool true] rfl rfl (World.news_of_block (heap_alloc_new w2 (.cells #[.string n, .bool true] 39))) (by intro u hu; simp at hu; rcases hu with rfl | rfl <;> rfl) (by unfold maxLen; omega) (by omega) (Nat.zero_le _) ?_; intro v2 w4 hown2 hgrow2 hnil2 hat2; have hO2 : Own [] wr w4 := ((hO1.out.alloc _).trans' (grown_any hgrow2) (fun z hz => by obtain ⟨g1, hg1, hge⟩ := hb1.out; rw [hg1] at hz; simp at hz; subst hz; exact .inr hge)); have d1 := (hO2.cell (p := ⟨xb, 0, none⟩) hxl (by simp)).trans c0; have hb2 : ∃ g1, v2.ownBlock = some g1 ∧ wr.heap.size ≤ g1 := (by rcases hat2 with h | h; exact h ▸ hb1.out; exact ⟨_, h, by have := hO1.out.size; simp; omega⟩); have hv2 : v2 ≠ .slice none 0 0 := (fun e => by have := (hnil2.1 e).2; omega); replace hO2 := Lib.hid hO2; replace hown2 := Lib.hid hown2; replace hgrow2 := Lib.hid hgrow2; replace hat2 := Lib.hid hat2; replace hb2 := Lib.hid hb2; replace hv2 := Lib.hid hv2; replace hnil2 := Lib.hid hnil2)
                | (at_builtin; refine wpList_append_own_at _ rfl (.tmp 87) (.tmp 93) 34 rfl 0 39 i0 _ 2 24 Try.underlying34 hi hz0 hz1 hz2 rfl (by omega) v2 (0 + k + 1) ([] ++ rowOf hEnc (r.take k) ++ [.string n, .bool true]) rfl hown2.out _ (N - k) _ (rowOf hEnc (r.drop k)) rfl hl2.out (hn4.out _ _) ho2.out (by unfold maxLen; omega) (by omega) (Nat.zero_le _) ?_; intro v3 w5 hown3 hgrow3 hnil3 hat3; obtain ⟨g3, cap3, rfl, _, _⟩ := hown3.form (by omega); have hO3 : Own [] wr w5 := (hO2.out.trans' (grown_any hgrow3) (fun z hz => by obtain ⟨g1, hg1, hge⟩ := hb2.out; rw [hg1] at hz; simp at hz; subst hz; exact .inr hge)); have d2 := (hO3.cell (p := ⟨xb, 0, none⟩) hxl (by simp)).trans c0; have f2 : w5.frozen? ⟨xb, 0, none⟩ = false := (frozen_of_row w5 xb 0 _ _ (hO3.heap hrow.out (by simp))); have hb3 : ∃ g1, Value.ownBlock (.slice (some ⟨g3, 0, none⟩) (0 + k + 1 + (N - k)) cap3) = some g1 ∧ wr.heap.size ≤ g1 := (by rcases hat3 with h | h; exact h ▸ hb2.out; exact ⟨_, h, hO2.out.size⟩); replace hO3 := Lib.hid hO3; replace hown3 := Lib.hid hown3; replace hb3 := Lib.hid hb3; replace hnil3 := Lib.hid hnil3; clear hgrow3 hat3))
              go_ret
              exact ⟨rfl, by simpa using ins_end hrow.out hO3.out hown3.out hN.out (by omega) hv2.out hnil3.out hb3.out (.slice (some ⟨g, 0, none⟩) N cap)⟩

/-- None is known yet. -/
theorem rPut_nil (n : ByteArray) (on : Bool) : rPut [] n on = (1, [(n, on)]) := by cases on <;> rfl
theorem append_nil_run (W : World) (H : Nat) (ty : TypeId) : (Builtin.append_ #[34, 34] ty #[.slice (some ⟨H, 0, none⟩) 0 0, .slice none 0 0]).run Try.prog W = .ok (.slice (some ⟨H, 0, none⟩) 0 0) W := by
  obtain ⟨i0, hi, _, hz1, _⟩ := info_parts viewInfo
  exact run_append_nothing W _ _ ty _ i0 Try.underlying34 hi _ 0 0 (Nat.le_refl _) _ (Src.ofNil W Try.underlying34 0)
end Go.Proofs.Ytnodacfhkgkliaa
