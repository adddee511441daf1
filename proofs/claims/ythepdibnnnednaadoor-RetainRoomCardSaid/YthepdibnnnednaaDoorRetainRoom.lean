/- RetainRoom: as many topics as there may be have room; one more has none, unless one goes; one that is there is replaced. -/
import Derived.Test.YthepdibnnnednaaDoorRetainAwake
import Derived.Deep.LoopGhost
namespace Go.Proofs.YthepdibnnnednaaDoor
open Go.RowKit

def tName (k : Nat) : ByteArray := strOfNums [116, 48 + (k : Int)]
def tX : ByteArray := ⟨#[120]⟩
def tSt (t : ByteArray) (k : Nat) : Msgs := (List.range k).map fun i => (tName i, (⟨tName i, t, 0, true⟩ : Ms))
theorem names_ok : (List.range 32).all (fun k => lvName (tName k)) = true := by kernel_rfl
theorem name_ok {k : Nat} (h : k < 32) : lvName (tName k) = true := List.all_eq_true.1 names_ok k (List.mem_range.2 h)
theorem name_x : lvName tX = true := by kernel_rfl
theorem names_apart : (List.range 32).all (fun i => (List.range 32).all fun j => decide (i = j) || !(tName i == tName j)) = true := by kernel_rfl
theorem name_apart {i j : Nat} (hi : i < 32) (hj : j < 32) (h : i ≠ j) : tName i ≠ tName j := by
  have := List.all_eq_true.1 (List.all_eq_true.1 names_apart i (List.mem_range.2 hi)) j (List.mem_range.2 hj)
  simpa [h] using this
theorem names_x : (List.range 32).all (fun i => !(tName i == tX)) = true := by kernel_rfl
theorem name_nx {i : Nat} (hi : i < 32) : tName i ≠ tX := by
  have := List.all_eq_true.1 names_x i (List.mem_range.2 hi)
  simpa using this
theorem tSt_len (t : ByteArray) (k : Nat) : (tSt t k).length = k := by simp [tSt]
theorem tSt_none {t : ByteArray} {k : Nat} (h : k < 32) : aGet (tSt t k) (tName k) = none := by
  rw [aGet_none_iff]
  intro p hp
  obtain ⟨i, hi, rfl⟩ := List.mem_map.1 hp
  have := List.mem_range.1 hi
  exact name_apart (by omega) h (by omega)
theorem tSt_x {t : ByteArray} {k : Nat} (h : k ≤ 32) : aGet (tSt t k) tX = none := by
  rw [aGet_none_iff]
  intro p hp
  obtain ⟨i, hi, rfl⟩ := List.mem_map.1 hp
  have := List.mem_range.1 hi
  exact name_nx (by omega)
theorem tSt_some {t : ByteArray} {j : Nat} (h : j < 32) : (aGet (tSt t 32) (tName j)).isSome = true := by
  cases hg : aGet (tSt t 32) (tName j) with
  | some _ => rfl
  | none =>
    rw [aGet_none_iff] at hg
    exact absurd rfl (hg _ (List.mem_map.2 ⟨j, List.mem_range.2 h, rfl⟩))
theorem tSt_succ (t : ByteArray) (k : Nat) : tSt t (k + 1) = tSt t k ++ [(tName k, ⟨tName k, t, 0, true⟩)] := by simp [tSt, List.range_succ]
theorem put_len {α : Type} {l : List (ByteArray × α)} {k : ByteArray} (h : (aGet l k).isSome = true) (v : α) : (aPut l k v).length = l.length := by
  induction l with
  | nil => simp [aGet] at h
  | cons p r ih =>
    unfold aPut
    by_cases hk : p.1 == k
    · simp [hk]
    · simp only [hk, Bool.false_eq_true, if_false, List.length_cons]
      rw [ih]
      simpa [aGet, hk] using h
theorem del_len {α : Type} {l : List (ByteArray × α)} (hn : (l.map (·.1)).Nodup) {k : ByteArray} (h : (aGet l k).isSome = true) : (aDel l k).length + 1 = l.length := by
  induction l with
  | nil => simp [aGet] at h
  | cons p r ih =>
    simp only [List.map_cons, List.nodup_cons] at hn
    unfold aDel at ih ⊢
    by_cases hk : p.1 == k
    · have hp : p.1 = k := by simpa using hk
      have hr : r.filter (fun q => !(q.1 == k)) = r := by
        rw [List.filter_eq_self]
        intro q hq
        have : q.1 ≠ k := fun e => hn.1 (by rw [hp, ← e]; exact List.mem_map_of_mem hq)
        simpa using this
      simp [hk, hr]
    · simp only [List.filter_cons, hk, Bool.not_false, if_true, List.length_cons]
      rw [ih hn.2 (by simpa [aGet, hk] using h)]

theorem room1 {t : ByteArray} (ht : t.toList.isEmpty = false) {k : Nat} (h : k < 32) : rKeep (tSt t k) ⟨tName k, t, 0, false⟩ = ((false, 0), tSt t (k + 1)) := by
  unfold rKeep
  simp only [name_ok h, ht, tSt_none h, tSt_len]
  rw [if_neg (by simp), if_neg (by simp), if_neg (by simp; omega), aPut_new (tSt_none h), tSt_succ]
  rfl
theorem room2 {t : ByteArray} (ht : t.toList.isEmpty = false) : rKeep (tSt t 32) ⟨tX, t, 0, false⟩ = ((false, 6), tSt t 32) := by
  unfold rKeep
  simp only [name_x, ht, tSt_x (t := t) (Nat.le_refl 32), tSt_len]
  rw [if_neg (by simp), if_neg (by simp), if_pos (by simp)]
theorem room3 {l : Msgs} {t : ByteArray} (ht : t.toList.isEmpty = false) {j : Nat} (h : j < 32) (hl : (aGet l (tName j)).isSome = true) : rKeep l ⟨tName j, t, 0, false⟩ = ((true, 0), aPut l (tName j) ⟨tName j, t, 0, true⟩) := by
  unfold rKeep
  simp only [name_ok h, ht, hl]
  rw [if_neg (by simp), if_neg (by simp), if_neg (by simp)]
  rfl
theorem room4 {l : Msgs} {j : Nat} (h : j < 32) (hl : (aGet l (tName j)).isSome = true) : rKeep l ⟨tName j, ⟨#[]⟩, 0, false⟩ = ((true, 0), aDel l (tName j)) := by
  unfold rKeep
  simp only [name_ok h, hl]
  rw [if_neg (by simp), if_pos (by kernel_rfl)]
theorem room5 {l : Msgs} {t : ByteArray} (ht : t.toList.isEmpty = false) (hg : aGet l tX = none) (hl : l.length < 32) : rKeep l ⟨tX, t, 0, false⟩ = ((false, 0), l ++ [(tX, ⟨tX, t, 0, true⟩)]) := by
  unfold rKeep
  simp only [name_x, ht, hg]
  rw [if_neg (by simp), if_neg (by simp), if_neg (by simp; omega), aPut_new hg]
  rfl
theorem y_ne (t : ByteArray) : (t ++ ⟨#[121]⟩ : ByteArray).toList.isEmpty = false := by
  rw [ByteArray.toList_eq]; simp [ByteArray.data_append]

set_option maxRecDepth 100000 in
set_option maxHeartbeats 4000000 in
theorem room_walk (kk : Int) (t : ByteArray) (w : World) (hk : (Lit.int .u8 kk).wf = true) (hs : t.size ≤ 140737488351232) (hT : Tabs w) :
    Calls Tryd.prog 4 #[.int .u8 kk, .string t] w fun e w' => e = .returned (.bool true) ∧ Below w.heap.size w w' := by
  obtain ⟨hk0, hk1⟩ := Go.bounds_u8 hk
  clear hk
  have hcv := fun w x y => conv2 (P := Tryd.prog) Tryd.underlying34 Tryd.underlying5 Tryd.underlying9 w x y 5
  replace hT := Lib.hid hT
  cases ht : t.toList.isEmpty
  · obtain ⟨j, hj, hj4⟩ : ∃ j : Nat, kk % 32 = j ∧ j < 32 := ⟨(kk % 32).toNat, by omega, by omega⟩
    go_enter Tryd.func4, Tryd.ntmps4
    go_wp2_with fail
    refine (new_any _).mono ?_
    rintro e w1 ⟨b, m, rfl, hS, hb, hm, hO⟩
    have hB1 := hO.below (Nat.le_refl _) (by simp)
    replace hS := Lib.hid hS
    replace hB1 := Lib.hid hB1
    clear hO
    go_wp2_with fail
    go_loopg [6, 7, 8] 32 (fun g i _ _ wr => ∃ (k : Nat), k ≤ 32 ∧ g = 32 - k ∧ i = .int .i64 k ∧ Aside (Store wr b m (tSt t k) ∧ Below w.heap.size w wr))
    case atStart => exact ⟨0, by omega, by omega, rfl, hS.out, hB1.out⟩
    case round =>
      obtain ⟨k, hk4, rfl, rfl, hA⟩ := hrel
      obtain ⟨hS2, hB2⟩ := hA
      have hsz2 := hB2.size
      by_cases hlt : k < 32
      · have hO3 : Own [] wr (wr.alloc (.cells #[.int .u8 116, .int .u8 (48 + (k : Int))] 5)) := (Own.refl _ _).alloc _
        have hB3 := hB2.trans (hO3.below hsz2 (by simp))
        have K := Lib.hid (keep_eq (hS2.own hO3 (by simp) (by simp)) (hT.out.below hB3) (room1 ht hlt))
        simp only [tName] at K
        replace hB3 := Lib.hid hB3
        clear hS2 hB2 hO3
        go_wp2_with fail
        refine K.out.mono ?_
        rintro e w3 ⟨rfl, hS3, hO4⟩
        have F : Aside (Store w3 b m (tSt t (k + 1)) ∧ Below w.heap.size w w3) := ⟨hS3, hB3.out.trans (hO4.below hB3.out.size (by simp; omega))⟩
        clear hS3 hO4 K
        go_wp2_with fail
        go_roundg (32 - (k + 1))
        case measure => omega
        case rel => exact ⟨k + 1, by omega, by omega, by go_num, F⟩
      · obtain rfl : k = 32 := by omega
        clear hlt hk4
        have hO3 : Own [] wr (wr.alloc (.cells #[.int .u8 116, .int .u8 (48 + (j : Int))] 5)) := (Own.refl _ _).alloc _
        have hB3 := hB2.trans (hO3.below hsz2 (by simp))
        have K := Lib.hid (keep_eq (hS2.own hO3 (by simp) (by simp)) (hT.out.below hB3) (room2 ht))
        simp only [tX] at K
        replace hB3 := Lib.hid hB3
        clear hS2 hB2 hO3
        go_wp2_with fail
        refine K.out.mono ?_
        rintro e w3 ⟨rfl, hS3, hO4⟩
        have hB4 := hB3.out.trans (hO4.below hB3.out.size (by simp; omega))
        have K2 := Lib.hid (keep_eq hS3 (hT.out.below hB4) (room3 (y_ne t) hj4 (tSt_some hj4)))
        have L3 : (aPut (tSt t 32) (tName j) ⟨tName j, t ++ ⟨#[121]⟩, 0, true⟩).length = 32 := by rw [put_len (tSt_some hj4), tSt_len]
        have X3 : aGet (aPut (tSt t 32) (tName j) ⟨tName j, t ++ ⟨#[121]⟩, 0, true⟩) tX = none := by rw [aGet_put_other _ (name_nx hj4), tSt_x (Nat.le_refl _)]
        have G3 : (aGet (aPut (tSt t 32) (tName j) ⟨tName j, t ++ ⟨#[121]⟩, 0, true⟩) (tName j)).isSome = true := by rw [aGet_put_same]; rfl
        generalize aPut (tSt t 32) (tName j) ⟨tName j, t ++ ⟨#[121]⟩, 0, true⟩ = l3 at K2 L3 X3 G3
        replace L3 := Lib.hid L3
        replace X3 := Lib.hid X3
        replace G3 := Lib.hid G3
        simp only [tName] at K2
        replace hB4 := Lib.hid hB4
        clear hS3 hO4 K
        go_wp2_with fail
        refine K2.out.mono ?_
        rintro e w4 ⟨rfl, hS4, hO5⟩
        have hB5 := hB4.out.trans (hO5.below hB4.out.size (by simp; omega))
        have LN := len_any b m l3 w4 hS4
        rw [L3.out] at LN
        have D4 := del_len hS4.nodup G3.out
        have X4 : aGet (aDel l3 (tName j)) tX = none := by rw [aGet_del_other _ (name_nx hj4)]; exact X3.out
        have K3 := Lib.hid (keep_eq hS4 (hT.out.below hB5) (room4 hj4 G3.out))
        rw [L3.out] at D4
        generalize aDel l3 (tName j) = l4 at K3 D4 X4
        simp only [tName] at K3
        replace hB5 := Lib.hid hB5
        replace LN := Lib.hid LN
        replace D4 := Lib.hid D4
        replace X4 := Lib.hid X4
        clear hS4 hO5 K2
        go_wp2_with fail
        refine LN.out.mono ?_
        rintro e w5 ⟨rfl, rfl⟩
        go_wp2_with fail
        refine K3.out.mono ?_
        rintro e w6 ⟨rfl, hS6, hO6⟩
        have hB6 := hB5.out.trans (hO6.below hB5.out.size (by simp; omega))
        have K4 := Lib.hid (keep_eq hS6 (hT.out.below hB6) (room5 ht X4.out (by have := D4.out; omega)))
        simp only [tX] at K4
        replace hB6 := Lib.hid hB6
        clear hS6 hO6 K3 LN
        go_wp2_with fail
        refine K4.out.mono ?_
        rintro e w7 ⟨rfl, hS7, hO7⟩
        have hB7 := hB6.out.trans (hO7.below hB6.out.size (by simp; omega))
        have LN := len_any b m _ w7 hS7
        have e32 : (l4 ++ [((⟨#[120]⟩ : ByteArray), (⟨⟨#[120]⟩, t, 0, true⟩ : Ms))]).length = 32 := by have := D4.out; simp; omega
        rw [e32] at LN
        replace LN := Lib.hid LN
        have hT7 := Lib.hid (hT.out.below hB7)
        replace hB7 := Lib.hid hB7
        clear hS7 hO7 K4 e32
        go_wp2_with fail
        refine LN.out.mono ?_
        rintro e w8 ⟨rfl, rfl⟩
        go_wp2_with fail
        refine (awake_any _ hT7.out).mono ?_
        rintro e w9 ⟨rfl, hO9⟩
        go_wp2_with fail
        go_ret
        exact ⟨rfl, hB7.out.trans (hO9.below hB7.out.size (by simp))⟩
  · go_enter Tryd.func4, Tryd.ntmps4
    go_wp2_with fail
    refine (new_any _).mono ?_
    rintro e w1 ⟨b, m, rfl, hS, hb, hm, hO⟩
    have hT1 := hT.out.own hO (by simp)
    clear hS
    replace hT1 := Lib.hid hT1
    go_wp2_with fail
    refine (awake_any _ hT1.out).mono ?_
    rintro e w2 ⟨rfl, hO2⟩
    go_wp2_with fail
    go_ret
    exact ⟨rfl, (hO.trans hO2).below (Nat.le_refl _) (by simp)⟩
end Go.Proofs.YthepdibnnnednaaDoor
