/- HostRoom: four hosts are taken; a fifth is refused for good; those that are known go on telling. -/
import Derived.Test.YtnodacfhkgkliaaHostAwake
import Derived.Test.YtnodacfhkgkliaaArgs
import Derived.OpenShut
namespace Go.Proofs.Ytnodacfhkgkliaa
open Go.RowKit

def rName (k : Nat) : ByteArray := strOfNums [104, 48 + (k : Int)]
def rSt (k : Nat) : HSt := (List.range k).map fun i => (rName i, false)
theorem rTake (k : Nat) (h : k < 4) : hTake (rSt k) (rName k) ⟨#[79, 70, 70, 76, 73, 78, 69]⟩ = (1, rSt (k + 1)) := by
  match k, h with
  | 0, _ => decide +kernel
  | 1, _ => decide +kernel
  | 2, _ => decide +kernel
  | 3, _ => decide +kernel

def upText (up : Bool) : ByteArray := if up then ⟨#[79, 78, 76, 73, 78, 69]⟩ else ⟨#[79, 70, 70, 76, 73, 78, 69]⟩
def rSt2 (j : Nat) (up : Bool) : HSt := (rSt 4).set j (rName j, up)
theorem hFind_none_of {st : HSt} {x : ByteArray} (h : ∀ p ∈ st, p.1 ≠ x) : hFind st x = none := by
  unfold hFind
  rw [List.findIdx?_eq_none_iff]
  intro p hp
  simpa using Ne.symm (h p hp)
theorem rFind_x (st : HSt) (h : ∀ p ∈ st, ∃ y, p.1.data.toList.head? = some y ∧ y ≠ 120) (more : ByteArray) : hFind st (⟨#[120]⟩ ++ more) = none := by
  refine hFind_none_of fun p hp e => ?_
  obtain ⟨y, hy, hne⟩ := h p hp
  rw [e] at hy
  simp [ByteArray.data_append] at hy
  exact hne hy.symm
theorem rSt_heads : ∀ p ∈ rSt 4, ∃ y, p.1.data.toList.head? = some y ∧ y ≠ 120 := by
  intro p hp
  obtain ⟨i, hi, rfl⟩ := List.mem_map.1 hp
  exact ⟨104, rfl, by decide⟩
theorem rSt2_heads (j : Nat) (up : Bool) : ∀ p ∈ rSt2 j up, ∃ y, p.1.data.toList.head? = some y ∧ y ≠ 120 := by
  intro p hp
  rcases List.mem_or_eq_of_mem_set hp with h | rfl
  · exact rSt_heads p h
  · exact ⟨104, rfl, by decide⟩
theorem x_ne (more : ByteArray) : (⟨#[120]⟩ ++ more : ByteArray).toList ≠ [] := by
  rw [ByteArray.toList_eq]; simp [ByteArray.data_append]
theorem rFull1 (more : ByteArray) (up : Bool) : hTake (rSt 4) (⟨#[120]⟩ ++ more) (upText up) = (8, rSt 4) := by
  have h1 := x_ne more
  have h2 : hPut (rSt 4) (⟨#[120]⟩ ++ more) up = (8, rSt 4) := by
    unfold hPut
    rw [rFind_x _ rSt_heads]
    rfl
  unfold hTake
  rw [if_neg h1]
  cases up
  · rw [if_neg (by decide +kernel), if_pos (by decide +kernel), h2]
  · rw [if_pos (by decide +kernel), h2]
theorem rFull2 (j : Nat) (h : j < 4) (up : Bool) : hTake (rSt 4) (rName j) (upText up) = (1, rSt2 j up) := by
  match j, h with
  | 0, _ => cases up <;> decide +kernel
  | 1, _ => cases up <;> decide +kernel
  | 2, _ => cases up <;> decide +kernel
  | 3, _ => cases up <;> decide +kernel
theorem rFull3 (j : Nat) (up : Bool) (more : ByteArray) : hTake (rSt2 j up) (rName j) (more ++ ⟨#[63]⟩) = (3, rSt2 j up) := by
  have e : (more ++ ⟨#[63]⟩ : ByteArray).toList.getLast? = some 63 := by rw [ByteArray.toList_eq]; simp [ByteArray.data_append]
  have h1 : (rName j).toList ≠ [] := by rw [ByteArray.toList_eq]; simp [rName, strOfNums_data]
  unfold hTake
  rw [if_neg h1, if_neg (fun h => by rw [h] at e; revert e; decide), if_neg (fun h => by rw [h] at e; revert e; decide)]
theorem rFull4 (j : Nat) (up : Bool) (t : ByteArray) : hTake (rSt2 j up) ⟨#[]⟩ t = (7, rSt2 j up) := by
  unfold hTake
  rw [if_pos (by decide +kernel)]
theorem rFull5 (j : Nat) (h : j < 4) (up : Bool) : hOn (rSt2 j up) (rName j) = (up, true) := by
  match j, h with
  | 0, _ => cases up <;> decide +kernel
  | 1, _ => cases up <;> decide +kernel
  | 2, _ => cases up <;> decide +kernel
  | 3, _ => cases up <;> decide +kernel
theorem rFull6 (j : Nat) (up : Bool) (more : ByteArray) : hOn (rSt2 j up) (⟨#[120]⟩ ++ more) = (false, false) := by
  unfold hOn
  rw [rFind_x _ (rSt2_heads j up)]

theorem room_walk (more : ByteArray) (kk : Int) (up : Bool) (w : World) (hs : more.size ≤ 140737488351232) (hk : (Lit.int .u8 kk).wf = true) :
    Calls Try.prog 4 #[.string more, .int .u8 kk, .bool up] w fun e w' => e = .returned (.bool true) ∧ Below w.heap.size w w' := by
  obtain ⟨hk0, hk1⟩ := Go.bounds_u8 hk
  clear hk
  have hcv := fun w x y => conv2 (P := Try.prog) Try.underlying30 Try.underlying5 Try.underlying9 w x y 5
  obtain ⟨j, hj, hj4⟩ : ∃ j : Nat, kk % 4 = j ∧ j < 4 := ⟨(kk % 4).toNat, by omega, by omega⟩
  go_enter Try.func4, Try.ntmps4
  go_wp2_with fail
  refine (new_any _).mono ?_
  rintro e w1 ⟨b, m, rfl, hH, hb, hm, hO⟩
  go_wp2_with fail
  go_loopw [8] (fun i wr => ∃ (k : Nat), k ≤ 4 ∧ i = .int .i64 k ∧ Host wr b m (rSt k) ∧ Below w.heap.size w wr)
    (fun i _ => 4 - (intOf i).toNat)
  case atStart => exact ⟨0, by omega, rfl, hH, hO.below (Nat.le_refl _) (by simp)⟩
  case round =>
    obtain ⟨k, hk4, rfl, hHr, hB⟩ := hrel
    by_cases hlt : k < 4
    · have hT := take_any b m _ (wr.alloc (.cells #[.int .u8 104, .int .u8 (48 + (k : Int))] 5)) (rName k) ⟨#[79, 70, 70, 76, 73, 78, 69]⟩ (hHr.own ((Own.refl [] _).alloc _) (by simp) (by simp))
      rw [rTake k hlt] at hT
      simp only [rName] at hT
      have hT := Lib.hid hT
      have hB := hB.alloc hB.size (.cells #[.int .u8 104, .int .u8 (48 + (k : Int))] 5)
      clear hHr hO hH
      go_wp2_with fail
      refine hT.out.mono ?_
      rintro e w2 ⟨rfl, hH2, hO2⟩
      go_wp2_with fail
      go_roundw
      case rel => exact ⟨k + 1, by omega, by go_num, hH2, hB.trans (hO2.below hB.size (by simp; omega))⟩
      case measure => simp [intOf]; omega
    · obtain rfl : k = 4 := by omega
      cases up
      · have T1 := Lib.hid (fun w => take_eq (b := b) (m := m) (rFull1 more false) w)
        have T2 := Lib.hid (fun w => take_eq (b := b) (m := m) (rFull2 j hj4 false) w)
        have T3 := Lib.hid (fun w => take_eq (b := b) (m := m) (rFull3 j false more) w)
        have T4 := Lib.hid (fun w => take_eq (b := b) (m := m) (rFull4 j false (upText false)) w)
        have T5 := Lib.hid (fun w => online_eq (b := b) (m := m) (rFull5 j hj4 false) w)
        have T6 := Lib.hid (fun w => online_eq (b := b) (m := m) (rFull6 j false more) w)
        have T7 := Lib.hid (fun w h => len_any b m (rSt2 j false) w h)
        have hB := hB.alloc hB.size (.cells #[.int .u8 104, .int .u8 (48 + (j : Int))] 5)
        have hHr := hHr.own ((Own.refl [] _).alloc (.cells #[.int .u8 104, .int .u8 (48 + (j : Int))] 5)) (by simp) (by simp)
        have hS := hB.size
        generalize hN : rSt2 j false = st2 at *
        have hN := Lib.hid hN
        have hN4 : st2.length = 4 := by rw [← hN.out]; simp [rSt2, rSt]
        have hN4 := Lib.hid hN4
        clear hH hO
        go_wp2_with fail
        refine (T1.out _ hHr).mono ?_
        rintro e w2 ⟨rfl, hH2, hO2⟩
        go_wp2_with fail
        refine (T2.out _ hH2).mono ?_
        rintro e w3 ⟨rfl, hH3, hO3⟩
        go_wp2_with fail
        refine (T3.out _ hH3).mono ?_
        rintro e w4 ⟨rfl, hH4, hO4⟩
        go_wp2_with fail
        refine (T4.out _ hH4).mono ?_
        rintro e w5 ⟨rfl, hH5, hO5⟩
        go_wp2_with fail
        refine (T5.out _ hH5).mono ?_
        rintro e w6 ⟨rfl, rfl⟩
        go_wp2_with fail
        refine (T6.out _ hH5).mono ?_
        rintro e w6 ⟨rfl, rfl⟩
        go_wp2_with fail
        refine (T7.out _ hH5).mono ?_
        rintro e w6 ⟨rfl, rfl⟩
        rw [hN4.out]
        go_wp2_with fail
        refine (awake_any _).mono ?_
        rintro e w7 ⟨rfl, hA3⟩
        go_wp2_with fail
        go_ret
        have hO6 := ((hO2.trans hO3).trans hO4).trans hO5
        exact ⟨rfl, (hB.trans (hO6.below hS (by simp; omega))).trans (hA3.below (Nat.le_trans hS hO6.size) (by simp))⟩
      · have T1 := Lib.hid (fun w => take_eq (b := b) (m := m) (rFull1 more true) w)
        have T2 := Lib.hid (fun w => take_eq (b := b) (m := m) (rFull2 j hj4 true) w)
        have T3 := Lib.hid (fun w => take_eq (b := b) (m := m) (rFull3 j true more) w)
        have T4 := Lib.hid (fun w => take_eq (b := b) (m := m) (rFull4 j true (upText true)) w)
        have T5 := Lib.hid (fun w => online_eq (b := b) (m := m) (rFull5 j hj4 true) w)
        have T6 := Lib.hid (fun w => online_eq (b := b) (m := m) (rFull6 j true more) w)
        have T7 := Lib.hid (fun w h => len_any b m (rSt2 j true) w h)
        have hB := hB.alloc hB.size (.cells #[.int .u8 104, .int .u8 (48 + (j : Int))] 5)
        have hHr := hHr.own ((Own.refl [] _).alloc (.cells #[.int .u8 104, .int .u8 (48 + (j : Int))] 5)) (by simp) (by simp)
        have hS := hB.size
        generalize hN : rSt2 j true = st2 at *
        have hN := Lib.hid hN
        have hN4 : st2.length = 4 := by rw [← hN.out]; simp [rSt2, rSt]
        have hN4 := Lib.hid hN4
        clear hH hO
        go_wp2_with fail
        refine (T1.out _ hHr).mono ?_
        rintro e w2 ⟨rfl, hH2, hO2⟩
        go_wp2_with fail
        refine (T2.out _ hH2).mono ?_
        rintro e w3 ⟨rfl, hH3, hO3⟩
        go_wp2_with fail
        refine (T3.out _ hH3).mono ?_
        rintro e w4 ⟨rfl, hH4, hO4⟩
        go_wp2_with fail
        refine (T4.out _ hH4).mono ?_
        rintro e w5 ⟨rfl, hH5, hO5⟩
        go_wp2_with fail
        refine (T5.out _ hH5).mono ?_
        rintro e w6 ⟨rfl, rfl⟩
        go_wp2_with fail
        refine (T6.out _ hH5).mono ?_
        rintro e w6 ⟨rfl, rfl⟩
        go_wp2_with fail
        refine (T7.out _ hH5).mono ?_
        rintro e w6 ⟨rfl, rfl⟩
        rw [hN4.out]
        go_wp2_with fail
        refine (awake_any _).mono ?_
        rintro e w7 ⟨rfl, hA3⟩
        go_wp2_with fail
        go_ret
        have hO6 := ((hO2.trans hO3).trans hO4).trans hO5
        exact ⟨rfl, (hB.trans (hO6.below hS (by simp; omega))).trans (hA3.below (Nat.le_trans hS hO6.size) (by simp))⟩
end Go.Proofs.Ytnodacfhkgkliaa
