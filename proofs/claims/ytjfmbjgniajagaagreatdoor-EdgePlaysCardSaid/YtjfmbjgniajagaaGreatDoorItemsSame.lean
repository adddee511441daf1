/- Two lists of items: are they the same? -/
import Derived.Test.YtjfmbjgniajagaaGreatDoorItemsFind2
import Derived.Test.YtjfmbjgniajagaaGreatDoorItemsEq
namespace Go.Proofs.YtjfmbjgniajagaaGreatDoor
open Go.RowKit

theorem itAt_ne {a b : List Itm} {k : Nat} (h : itEq (itAt a k) (itAt b k) = false) : itSame a b = false := by
  cases hs : itSame a b
  · rfl
  · have := (itSame_iff a b).1 hs
    subst this
    rw [itEq_refl] at h
    cases h
theorem itAt_all {a b : List Itm} (hl : a.length = b.length) (h : ∀ j, j < a.length → itEq (itAt a j) (itAt b j) = true) : itSame a b = true := by
  rw [itSame_get hl]
  intro i hi
  rw [itAt_get hi, itAt_get (by omega), (itEq_iff _ _).1 (h i hi)]

set_option maxHeartbeats 2000000 in
theorem rsame_any (a1 : Option Addr) (L1 : List Itm) (c1 : Nat) (a2 : Option Addr) (L2 : List Itm) (c2 : Nat) (w : World) (h1 : ItemsAt w a1 L1) (h2 : ItemsAt w a2 L2) :
    Calls Tryz.prog 30 #[.slice a1 L1.length c1, .slice a2 L2.length c2] w fun e w' => e = .returned (.bool (itSame L1 L2)) ∧ Own [] w w' := by
  have hl1 := h1.1
  have hl2 := h2.1
  by_cases hn : L1.length = L2.length
  · generalize hr : itSame L1 L2 = r
    replace hr := Lib.hid hr
    replace h1 := Lib.hid h1
    replace h2 := Lib.hid h2
    have hn' : L2.length = L1.length := hn.symm
    rw [hn'] at hl2 ⊢
    replace hn := Lib.hid hn
    clear hn'
    go_enter Tryz.func30, Tryz.ntmps30
    go_wp2_with fail
    go_loopg [5] L1.length (fun g s8 wr => ∃ k : Nat, k ≤ L1.length ∧ g = L1.length - k ∧ s8 = .int .i64 k ∧ Own [] w wr ∧ Hid (∀ j, j < k → itEq (itAt L1 j) (itAt L2 j) = true))
    case atStart => exact ⟨0, by omega, by omega, rfl, Own.refl _ _, Lib.hid (fun j hj => by omega)⟩
    case round =>
      obtain ⟨k, hk1, rfl, rfl, hO, hN⟩ := hrel
      by_cases hlt : k < L1.length
      · obtain ⟨b1, o1, rfl, hb1, _, hc1⟩ := (h1.out.nil' hO).item hlt
        obtain ⟨b2, o2, rfl, hb2, _, hc2⟩ := (h2.out.nil' hO).item (show k < L2.length by have := hn.out; omega)
        have hq := fun W => run_neq_itm (itAt L1 k) (itAt L2 k) W
        have hlast : ∀ b, itEq (itAt L1 k) (itAt L2 k) = b → if b then (∀ j, j < k + 1 → itEq (itAt L1 j) (itAt L2 j) = true) else r = false := by
          intro b hb
          cases b
          · simp only [Bool.false_eq_true, if_false]
            rw [← hr.out]
            exact itAt_ne hb
          · simp only [if_true]
            intro j hj
            by_cases e : j = k
            · rw [e]; exact hb
            · exact hN.out j (by omega)
        generalize itAt L1 k = x at hc1 hq hlast
        generalize itAt L2 k = y at hc2 hq hlast
        obtain ⟨nm, hs, al, ty, nu, vk, vn, vs⟩ := x
        obtain ⟨nm', hs', al', ty', nu', vk', vn', vs'⟩ := y
        generalize itEq _ _ = bb at hq hlast
        have hlast := Lib.hid (hlast bb rfl)
        obtain ⟨d0, d1, d2, d3, d4, d5, d6, d7⟩ := At8.all hc1
        obtain ⟨e0, e1, e2, e3, e4, e5, e6, e7⟩ := At8.all hc2
        have q0 : (0 : Int) ≤ k := by omega
        have q1 : (k : Int) < L1.length := by omega
        unfold Itm.val Itm.cells at hq
        clear hc1 hc2 hb1 hb2
        go_wp2_with fail
        go_quiet (fail)
        cases bb
        · go_wp2_with fail
          go_ret
          exact ⟨by rw [show r = false by simpa using hlast.out]; rfl, hO.drewN _⟩
        · go_wp2_with fail
          go_roundg (L1.length - (k + 1))
          case measure => omega
          case rel => exact ⟨k + 1, by omega, rfl, by go_num, hO.drewN _, Lib.hid (by simpa using hlast.out)⟩
      · have hrn : r = true := by
          rw [← hr.out]; exact itAt_all hn.out (fun j hj => hN.out j (by omega))
        replace hrn := Lib.hid hrn
        have hge : L1.length ≤ k := by omega
        go_wp2_with fail
        go_ret
        exact ⟨by rw [hrn.out]; rfl, hO⟩
  · rw [itSame_len hn]
    have hn1 : ((L1.length : Int) != L2.length) = true := by simpa using (by omega : ¬ (L1.length : Int) = L2.length)
    clear hn h1 h2
    go_enter Tryz.func30, Tryz.ntmps30
    go_wp2_with fail
    go_ret
    exact ⟨rfl, Own.refl _ _⟩
end Go.Proofs.YtjfmbjgniajagaaGreatDoor
