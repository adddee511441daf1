/- alias: may, Set, Try. -/
import Derived.Test.YtjbmmgclkhigiaaAliasDrop
namespace Go.Proofs.Ytjbmmgclkhigiaa
open Go.RowKit

theorem clash_none {l want : ATab} {ow : ByteArray} (h : aClash l ow want = false) : ∀ p ∈ want, aGet (aOthers l ow) p.1 = none := by
  intro p hp
  rw [aGet_none_iff]
  intro q hq e
  have h1 : (aGet want q.1).isSome = false := by
    have h2 := List.any_eq_false.1 h q hq
    simpa using h2
  have : aGet want q.1 = none := by simpa using h1
  exact (aGet_none_iff _ _).1 this p hp e.symm

theorem aFresh_len (ow : ByteArray) : ∀ (L : List Itm) (acc want : ATab), aFresh ow L acc = some want → want.length ≤ acc.length + L.length
  | [], acc, want, h => by simp [aFresh] at h; subst h; simp
  | x :: r, acc, want, h => by
    unfold aFresh at h
    split at h
    · split at h
      · cases h
      · have := aFresh_len ow r _ want h
        simp at this ⊢
        omega
    · have := aFresh_len ow r _ want h
      simp at this ⊢
      omega

def MayPost (w : World) (r : Int × ATab) (e : Ending) (w' : World) : Prop :=
  (if r.1 = 0 then ∃ m, e = .returned (.tuple #[.map (some m), .int .i64 0]) ∧ MapP aKey sVal w' m r.2 ∧ w.heap.size ≤ m else e = .returned (.tuple #[.map none, .int .i64 r.1])) ∧ Own [] w w'

set_option maxHeartbeats 1000000 in
theorem may_any (b m : Nat) (l : ATab) (ow : ByteArray) (a : Option Addr) (n c : Nat) (its : Nat → Itm) (w : World) (h : Tab w b m l) (hA : ItemRow w a n its) (hcap : l.length ≤ 1000000) :
    Calls Try.prog 21 #[.pointer (some ⟨b, 0, none⟩), .string ow, .slice a n c] w (MayPost w (aMay l ow (itList n its))) := by
  have hm : w.cell? ⟨b, 0, none⟩ = some (.map (some m)) := cell_of_row w b 0 _ _ _ h.row
  have F := Lib.hid (fresh_any ow a n c its w hA)
  have hn := hA.1
  unfold aMay
  cases hf : aFresh ow (itList n its) [] with
  | none =>
    rw [hf] at F
    clear h hA hf
    go_enter Try.func21, Try.ntmps21
    go_wp2_with (go_at_call 23; refine (none_no _ _ _ hm).mono ?_; rintro e w' ⟨rfl, rfl⟩)
    refine F.out.mono ?_
    rintro e w1 ⟨rfl, hO⟩
    go_wp2_with fail
    go_ret2
    exact ⟨rfl, hO⟩
  | some want =>
    rw [hf] at F
    have hT := Lib.hid (fun w1 (ho : Own [] w w1) => h.own ho (by simp) (by simp))
    have hcl : (aOthers l ow).length ≤ l.length := List.length_filter_le _ _
    have hwl : want.length ≤ 140737488351232 := by have := aFresh_len ow _ _ _ hf; simp [itList] at this; omega
    clear h hA hf
    cases hx : aClash l ow want with
    | true =>
      replace hx := Lib.hid hx
      go_enter Try.func21, Try.ntmps21
      go_wp2_with (go_at_call 23; refine (none_no _ _ _ hm).mono ?_; rintro e w' ⟨rfl, rfl⟩)
      refine F.out.mono ?_
      rintro e w1 ⟨⟨mw, rfl, hM, hmw⟩, hO⟩
      have O := Lib.hid (others_any b m mw l want ow w1 (hT.out _ hO) hM hcap)
      rw [hx.out] at O
      go_wp2_with fail
      refine O.out.mono ?_
      rintro e w2 ⟨rfl, hO2⟩
      go_wp2_with fail
      go_ret2
      exact ⟨rfl, hO.trans hO2⟩
    | false =>
      replace hx := Lib.hid hx
      simp only [hx.out, Bool.false_eq_true, if_false]
      by_cases hl : 64 < (aOthers l ow).length + want.length
      · simp only [if_pos hl]
        go_enter Try.func21, Try.ntmps21
        go_wp2_with (go_at_call 23; refine (none_no _ _ _ hm).mono ?_; rintro e w' ⟨rfl, rfl⟩)
        refine F.out.mono ?_
        rintro e w1 ⟨⟨mw, rfl, hM, hmw⟩, hO⟩
        have O := Lib.hid (others_any b m mw l want ow w1 (hT.out _ hO) hM hcap)
        rw [hx.out] at O
        have hlen := fun w2 (h2 : Own [] w1 w2) => (hM.own h2 (by simp)).len_run aMapT
        replace hlen := Lib.hid hlen
        go_wp2_with fail
        refine O.out.mono ?_
        rintro e w2 ⟨rfl, hO2⟩
        have hlen2 := hlen.out w2 hO2
        go_wp2_with fail
        go_ret2
        exact ⟨rfl, hO.trans hO2⟩
      · simp only [if_neg hl]
        go_enter Try.func21, Try.ntmps21
        go_wp2_with (go_at_call 23; refine (none_no _ _ _ hm).mono ?_; rintro e w' ⟨rfl, rfl⟩)
        refine F.out.mono ?_
        rintro e w1 ⟨⟨mw, rfl, hM, hmw⟩, hO⟩
        have O := Lib.hid (others_any b m mw l want ow w1 (hT.out _ hO) hM hcap)
        rw [hx.out] at O
        have hlen := fun w2 (h2 : Own [] w1 w2) => (hM.own h2 (by simp)).len_run aMapT
        replace hlen := Lib.hid hlen
        go_wp2_with fail
        refine O.out.mono ?_
        rintro e w2 ⟨rfl, hO2⟩
        have hlen2 := hlen.out w2 hO2
        have hl' : (aOthers l ow).length + want.length ≤ 64 := by omega
        clear hl
        go_wp2_with fail
        go_ret2
        exact ⟨⟨mw, rfl, hM.own hO2 (by simp), hmw⟩, hO.trans hO2⟩

theorem try_any (b m : Nat) (l : ATab) (ow : ByteArray) (a : Option Addr) (n c : Nat) (its : Nat → Itm) (w : World) (h : Tab w b m l) (hA : ItemRow w a n its) (hcap : l.length ≤ 1000000) :
    Calls Try.prog 14 #[.pointer (some ⟨b, 0, none⟩), .string ow, .slice a n c] w fun e w' => e = .returned (.int .i64 (aMay l ow (itList n its)).1) ∧ Own [] w w' := by
  have M := Lib.hid (may_any b m l ow a n c its w h hA hcap)
  clear h hA
  generalize aMay l ow (itList n its) = r at M ⊢
  obtain ⟨r1, r2⟩ := r
  by_cases hr : r1 = 0
  · subst hr
    go_enter Try.func14, Try.ntmps14
    go_wp2_with fail
    refine M.out.mono ?_
    rintro e w1 ⟨hM, hO⟩
    rw [if_pos rfl] at hM
    obtain ⟨mw, rfl, hM, hmw⟩ := hM
    go_wp2_with fail
    go_ret
    exact ⟨rfl, hO⟩
  · replace hr := Lib.hid hr
    go_enter Try.func14, Try.ntmps14
    go_wp2_with fail
    refine M.out.mono ?_
    rintro e w1 ⟨hM, hO⟩
    rw [if_neg hr.out] at hM
    subst hM
    go_wp2_with fail
    go_ret
    exact ⟨rfl, hO⟩

theorem aMay_clash {l : ATab} {ow : ByteArray} {items : List Itm} (h : (aMay l ow items).1 = 0) : aClash l ow (aMay l ow items).2 = false := by
  unfold aMay at h ⊢
  split
  · rename_i hf; rw [hf] at h; simp at h
  · rename_i want hf
    rw [hf] at h
    simp only at h ⊢
    cases hc : aClash l ow want with
    | true => rw [hc] at h; simp at h
    | false =>
      rw [hc] at h
      simp only [Bool.false_eq_true, if_false] at h ⊢
      split at h
      · simp at h
      · rename_i hl; rw [if_neg hl]; exact hc

theorem set_any (b m : Nat) (l : ATab) (ow : ByteArray) (a : Option Addr) (n c : Nat) (its : Nat → Itm) (w : World) (h : Tab w b m l) (hA : ItemRow w a n its) (hcap : l.length ≤ 1000000) :
    Calls Try.prog 9 #[.pointer (some ⟨b, 0, none⟩), .string ow, .slice a n c] w fun e w' =>
      e = .returned (.int .i64 (aSet l ow (itList n its)).1) ∧ Tab w' b m (aSet l ow (itList n its)).2 ∧ Own [m] w w' := by
  have M := Lib.hid (may_any b m l ow a n c its w h hA hcap)
  have hT := Lib.hid (fun w1 (ho : Own [] w w1) => h.own ho (by simp) (by simp))
  have hlt := h.lt
  have hcl := fun h0 => aMay_clash (l := l) (ow := ow) (items := itList n its) h0
  replace hcl := Lib.hid hcl
  clear h hA
  unfold aSet
  generalize aMay l ow (itList n its) = r at M hcl ⊢
  obtain ⟨r1, r2⟩ := r
  by_cases hr : r1 = 0
  · subst hr
    simp only [if_true]
    have hdis := clash_none (hcl.out rfl)
    replace hdis := Lib.hid hdis
    go_enter Try.func9, Try.ntmps9
    go_wp2_with fail
    refine M.out.mono ?_
    rintro e w1 ⟨hM, hO⟩
    rw [if_pos rfl] at hM
    obtain ⟨mw, rfl, hM, hmw⟩ := hM
    have D := Lib.hid (drop_any b m l ow w1 (hT.out _ hO) hcap)
    go_wp2_with fail
    refine D.out.mono ?_
    rintro e w2 ⟨rfl, hT2, hO2⟩
    have hne : m ≠ mw := by have := hlt.2; omega
    have C := Lib.hid (copy_any m mw _ r2 w2 hT2.map (hM.own hO2 (by simpa using hne.symm)) hne hdis.out)
    have hm2 : w2.cell? ⟨b, 0, none⟩ = some (.map (some m)) := cell_of_row w2 b 0 _ _ _ hT2.row
    replace hT2 := Lib.hid hT2
    go_wp2_with fail
    refine C.out.mono ?_
    rintro e w3 ⟨rfl, hM3, hO3⟩
    go_wp2_with fail
    go_ret
    exact ⟨rfl, ⟨hT2.out.ne, hO3.heap hT2.out.row (by simpa using hT2.out.ne), hM3⟩, (hO.nil.trans hO2).trans hO3⟩
  · rw [if_neg hr]
    have hrb : (r1 != 0) = true := by simpa using hr
    replace hr := Lib.hid hr
    go_enter Try.func9, Try.ntmps9
    go_wp2_with fail
    refine M.out.mono ?_
    rintro e w1 ⟨hM, hO⟩
    rw [if_neg hr.out] at hM
    subst hM
    go_wp2_with fail
    go_ret
    exact ⟨rfl, hT.out _ hO, hO.nil⟩
end Go.Proofs.Ytjbmmgclkhigiaa
