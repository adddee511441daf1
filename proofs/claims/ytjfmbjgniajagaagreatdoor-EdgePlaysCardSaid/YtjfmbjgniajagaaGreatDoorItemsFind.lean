/- Package items and its document: place, Find, Same. -/
import Derived.Test.YtjfmbjgniajagaaGreatDoorItemsMem
import Derived.Deep.LoopGhost
import Derived.Deep.QuietTactic
import Derived.BigQuiet
namespace Go.Proofs.YtjfmbjgniajagaaGreatDoor
open Go.RowKit

/-! ### plain -/
def itIdx (L : List Itm) (n : ByteArray) : Option Nat := L.findIdx? fun x => x.name == n
def itPlace (L : List Itm) (n : ByteArray) : Int := match itIdx L n with | some i => i | none => -1
def itAt (L : List Itm) (i : Nat) : Itm := L.getD i Itm.zero
def itFind (L : List Itm) (n : ByteArray) : Itm × Bool := match itIdx L n with | some i => (itAt L i, true) | none => (Itm.zero, false)
theorem itAt_get {L : List Itm} {i : Nat} (h : i < L.length) : L[i]? = some (itAt L i) := by simp [itAt, List.getD, h]
theorem itIdx_some {L : List Itm} {n : ByteArray} {i : Nat} (hi : i < L.length) (h0 : ∀ j, j < i → ((itAt L j).name == n) = false) (h1 : ((itAt L i).name == n) = true) : itIdx L n = some i := by
  unfold itIdx
  rw [List.findIdx?_eq_some_iff_getElem]
  simp only [itAt, List.getD, List.getElem?_eq_getElem hi, Option.getD_some] at h1
  refine ⟨hi, h1, fun j hj => ?_⟩
  have := h0 j hj
  simp only [itAt, List.getD, List.getElem?_eq_getElem (show j < L.length by omega), Option.getD_some] at this
  simp [this]
theorem itIdx_none {L : List Itm} {n : ByteArray} (h0 : ∀ j, j < L.length → ((itAt L j).name == n) = false) : itIdx L n = none := by
  unfold itIdx
  rw [List.findIdx?_eq_none_iff]
  intro x hx
  obtain ⟨j, hj, rfl⟩ := List.getElem_of_mem hx
  have := h0 j hj
  simpa only [itAt, List.getD, List.getElem?_eq_getElem hj, Option.getD_some] using this
theorem itIdx_lt {L : List Itm} {n : ByteArray} {i : Nat} (h : itIdx L n = some i) : i < L.length ∧ (itAt L i).name = n := by
  obtain ⟨hl, hk, _⟩ := List.findIdx?_eq_some_iff_getElem.1 h
  refine ⟨hl, ?_⟩
  simp only [itAt, List.getD, List.getElem?_eq_getElem hl, Option.getD_some]
  exact LawfulBEq.eq_of_beq hk
theorem itPlace_lt (L : List Itm) (n : ByteArray) : itPlace L n < L.length ∧ -1 ≤ itPlace L n := by
  unfold itPlace
  cases h : itIdx L n with
  | none => simp only; omega
  | some i => have := (itIdx_lt h).1; simp only; omega
/-- The cells of one item. -/
theorem RowsAt.item {w : World} {a : Option Addr} {L : List Itm} (h : ItemsAt w a L) {k : Nat} (hk : k < L.length) : ∃ b o, a = some ⟨b, o, none⟩ ∧ b < w.heap.size ∧ (itAt L k).wf ∧ ∀ j v, (itAt L k).cells[j]? = some v → w.cell? ⟨b, o + k * 8 + j, none⟩ = some v := by
  obtain ⟨b, o, e, hb, hx⟩ := h.2 (by omega)
  exact ⟨b, o, e, hb, hx k _ (itAt_get hk)⟩

/-! ### place -/
theorem place1_any (kb : Nat) (k2 : ByteArray) (nm : ByteArray) (hs : Bool) (al ty : Int) (nu : Bool) (vk vn : Int) (vs : ByteArray) (w : World) (h2 : w.cell? ⟨kb, 0, none⟩ = some (.string k2)) :
    Calls Tryz.prog 118 #[.agg #[.string nm, .bool hs, .int .u64 al, .int .u32 ty, .bool nu, .int .i64 vk, .int .u64 vn, .string vs], .pointer (some ⟨kb, 0, none⟩)] w fun e w' => e = .returned (.bool (nm == k2)) ∧ Own [] w w' := by
  rw [beq_toListBytes]
  have hkb := block_lt_of_cell h2
  have h2' : ∀ o, (w.alloc o).cell? ⟨kb, 0, none⟩ = some (.string k2) := fun o => ((Own.refl [] w).alloc o).cell (p := ⟨kb, 0, none⟩) hkb (by simp) |>.trans h2
  go_enter Tryz.func118, Tryz.ntmps118
  go_wp2_with fail
  go_ret
  exact ⟨rfl, (Own.refl _ _).alloc _⟩

set_option maxHeartbeats 1000000 in
theorem index_any (a : Option Addr) (L : List Itm) (cap kb : Nat) (key : ByteArray) (w : World) (h : ItemsAt w a L) (hk : w.cell? ⟨kb, 0, none⟩ = some (.string key)) :
    Calls Tryz.prog 117 #[.slice a L.length cap, .func (.func 118) #[] #[.pointer (some ⟨kb, 0, none⟩)]] w fun e w' => e = .returned (.int .i64 (itPlace L key)) ∧ Own [] w w' := by
  have hkb := block_lt_of_cell hk
  have hl := h.1
  generalize hr : itPlace L key = r
  replace hr := Lib.hid hr
  replace h := Lib.hid h
  go_enter Tryz.func117, Tryz.ntmps117
  go_wp2_with fail
  go_loopg [8] L.length (fun g s8 wr => ∃ k : Nat, k ≤ L.length ∧ g = L.length - k ∧ s8 = .int .i64 k ∧ Own [] w wr ∧ Hid (∀ j, j < k → ((itAt L j).name == key) = false))
  case atStart => exact ⟨0, by omega, by omega, rfl, Own.refl _ _, Lib.hid (fun j hj => by omega)⟩
  case round =>
    obtain ⟨k, hk1, rfl, rfl, hO, hN⟩ := hrel
    by_cases hlt : k < L.length
    · have hi := (h.out.nil' hO).item hlt
      have hlast : ∀ b, ((itAt L k).name == key) = b → if b then r = k else (∀ j, j < k + 1 → ((itAt L j).name == key) = false) := by
        intro b hb
        cases b
        · simp only [Bool.false_eq_true, if_false]
          intro j hj
          by_cases e : j = k
          · rw [e]; exact hb
          · exact hN.out j (by omega)
        · simp only [if_true]
          rw [← hr.out]
          unfold itPlace
          rw [itIdx_some hlt hN.out hb]
      generalize itAt L k = x at hi hlast
      obtain ⟨b, o, rfl, hb, hwf, hc⟩ := hi
      obtain ⟨nm, hs, al, ty, nu, vk, vn, vs⟩ := x
      have E := place1_any kb key nm hs al ty nu vk vn vs wr ((hO.cell (p := ⟨kb, 0, none⟩) hkb (by simp)).trans hk)
      have c0 := hc 0 _ rfl
      have c1 := hc 1 _ rfl
      have c2 := hc 2 _ rfl
      have c3 := hc 3 _ rfl
      have c4 := hc 4 _ rfl
      have c5 := hc 5 _ rfl
      have c6 := hc 6 _ rfl
      have c7 := hc 7 _ rfl
      simp only [Nat.add_zero] at c0
      simp only at hlast
      generalize (nm == key) = bb at E hlast
      have hlast := Lib.hid (hlast bb rfl)
      replace E := Lib.hid E
      clear hc hwf hb
      go_wp2_with fail
      refine E.out.mono ?_
      rintro e w2 ⟨rfl, hO2⟩
      clear c0 c1 c2 c3 c4 c5 c6 c7
      cases bb
      · go_wp2_with fail
        go_roundg (L.length - (k + 1))
        case measure => omega
        case rel => exact ⟨k + 1, by omega, rfl, by go_num, hO.trans hO2, Lib.hid (by simpa using hlast.out)⟩
      · go_wp2_with fail
        go_ret
        exact ⟨by rw [show r = (k : Int) by simpa using hlast.out]; rfl, hO.trans hO2⟩
    · have hrn : r = -1 := by
        rw [← hr.out]; unfold itPlace; rw [itIdx_none (fun j hj => hN.out j (by omega))]
      replace hrn := Lib.hid hrn
      have hge : L.length ≤ k := by omega
      go_wp2_with fail
      go_ret
      exact ⟨by rw [hrn.out]; rfl, hO⟩

theorem place_any (a : Option Addr) (L : List Itm) (cap lb : Nat) (key : ByteArray) (w : World) (h : ItemsAt w a L) (hk : w.cell? ⟨lb, 0, none⟩ = some (.slice a L.length cap)) :
    Calls Tryz.prog 107 #[.string key, .slice (some ⟨lb, 0, none⟩) 1 1] w fun e w' => e = .returned (.int .i64 (itPlace L key)) ∧ Own [] w w' := by
  have hlb := block_lt_of_cell hk
  have hl := h.1
  have hp := itPlace_lt L key
  have I := index_any a L cap w.heap.size key (w.alloc (.cells #[.string key] 9)) (h.nil' ((Own.refl [] _).alloc _)) (by simp)
  have hk' : (w.alloc (.cells #[.string key] 9)).cell? ⟨lb, 0, none⟩ = some (.slice a L.length cap) := (((Own.refl [] w).alloc _).cell (p := ⟨lb, 0, none⟩) hlb (by simp)).trans hk
  generalize itPlace L key = r at I hp
  replace I := Lib.hid I
  clear h
  obtain ⟨hp1, hp2⟩ := hp
  go_enter Tryz.func107, Tryz.ntmps107
  go_wp2_with fail
  refine wp_loop_rounds 2 ?_
  rw [rounds_succ]
  go_wp2_with fail
  refine I.out.mono ?_
  rintro e w2 ⟨rfl, hO2⟩
  have hO3 := ((Own.refl [] w).alloc (.cells #[.string key] 9)).trans hO2
  by_cases hr : 0 ≤ r
  · go_wp2_with fail
    go_ret
    exact ⟨rfl, hO3⟩
  · have hr1 : Hid (r = -1) := Lib.hid (by omega)
    go_wp2_with fail
    rw [rounds_succ]
    go_wp2_with fail
    go_ret
    exact ⟨by rw [hr1.out]; rfl, hO3⟩

set_option maxHeartbeats 1000000 in
theorem rplace_any (a : Option Addr) (L : List Itm) (cap : Nat) (key : ByteArray) (w : World) (h : ItemsAt w a L) :
    Calls Tryz.prog 100 #[.slice a L.length cap, .string key] w fun e w' => e = .returned (.int .i64 (itPlace L key)) ∧ w = w' := by
  have hl := h.1
  generalize hr : itPlace L key = r
  replace hr := Lib.hid hr
  replace h := Lib.hid h
  go_enter Tryz.func100, Tryz.ntmps100
  go_wp2_with fail
  go_loopg [5] L.length (fun g s5 wr => ∃ k : Nat, k ≤ L.length ∧ g = L.length - k ∧ s5 = .int .i64 k ∧ wr = w ∧ Hid (∀ j, j < k → ((itAt L j).name == key) = false))
  case atStart => exact ⟨0, by omega, by omega, rfl, rfl, Lib.hid (fun j hj => by omega)⟩
  case round =>
    obtain ⟨k, hk1, rfl, rfl, rfl, hN⟩ := hrel
    by_cases hlt : k < L.length
    · have hi := h.out.item hlt
      have hlast : ∀ b, ((itAt L k).name == key) = b → if b then r = k else (∀ j, j < k + 1 → ((itAt L j).name == key) = false) := by
        intro b hb
        cases b
        · simp only [Bool.false_eq_true, if_false]
          intro j hj
          by_cases e : j = k
          · rw [e]; exact hb
          · exact hN.out j (by omega)
        · simp only [if_true]
          rw [← hr.out]
          unfold itPlace
          rw [itIdx_some hlt hN.out hb]
      generalize itAt L k = x at hi hlast
      obtain ⟨b, o, rfl, hb, hwf, hc⟩ := hi
      obtain ⟨nm, hs, al, ty, nu, vk, vn, vs⟩ := x
      have c0 := hc 0 _ rfl
      simp only [Nat.add_zero] at c0
      simp only at hlast
      clear hc hwf hb
      cases hbb : (nm == key)
      · have hlast := Lib.hid (hlast _ hbb)
        have hb1 : (nm.toList == key.toList) = false := by rw [← beq_toListBytes]; exact hbb
        clear hbb
        go_wp2_with fail
        go_roundg (L.length - (k + 1))
        case measure => omega
        case rel => exact ⟨k + 1, by omega, rfl, by go_num, rfl, Lib.hid (by simpa using hlast.out)⟩
      · have hlast := Lib.hid (hlast _ hbb)
        have hb1 : (nm.toList == key.toList) = true := by rw [← beq_toListBytes]; exact hbb
        clear hbb
        go_wp2_with fail
        go_ret
        exact ⟨by rw [show r = (k : Int) by simpa using hlast.out]; rfl, rfl⟩
    · have hrn : r = -1 := by
        rw [← hr.out]; unfold itPlace; rw [itIdx_none (fun j hj => hN.out j (by omega))]
      replace hrn := Lib.hid hrn
      have hge : L.length ≤ k := by omega
      go_wp2_with fail
      go_ret
      exact ⟨by rw [hrn.out]; rfl, rfl⟩
end Go.Proofs.YtjfmbjgniajagaaGreatDoor
