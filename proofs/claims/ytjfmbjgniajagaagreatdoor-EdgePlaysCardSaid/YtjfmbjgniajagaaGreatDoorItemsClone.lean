/- Copies of items; a metric's name; what an update does to one item. -/
import Derived.Test.YtjfmbjgniajagaaGreatDoorItemsBorn2
import Derived.Test.YtjfmbjgniajagaaGreatDoorAlias
namespace Go.Proofs.YtjfmbjgniajagaaGreatDoor
open Go.RowKit

/-! ### copies -/
theorem add_any' (b o j : Nat) : (⟨b, o, none⟩ : Addr).add j = ⟨b, o + j, none⟩ := by unfold Addr.add; split <;> simp_all
theorem RowsAt.flat {α : Type} {enc : α → List Value} {k : Nat} {good : α → Prop} {w : World} {ad : Addr} {L : List α} (hk : ∀ x, (enc x).length = k) (h : RowsAt enc k good w (some ad) L) : ∀ j u, (rowOf enc L)[j]? = some u → w.cell? (ad.add j) = some u := by
  intro j u hj
  have hjl : j < L.length * k := by rw [← rowOf_len hk]; exact (List.getElem?_eq_some_iff.1 hj).1
  have hk0 : 0 < k := by
    rcases Nat.eq_zero_or_pos k with rfl | h0
    · simp at hjl
    · exact h0
  have hi : j / k < L.length := Nat.div_lt_of_lt_mul (by rwa [Nat.mul_comm])
  obtain ⟨b, o, e, _, hx⟩ := h.2 (Nat.lt_of_le_of_lt (Nat.zero_le _) hi)
  simp only [Option.some.injEq] at e
  subst e
  have e1 := rowOf_get hk L (j / k) (j % k) _ (List.getElem?_eq_getElem hi) (Nat.mod_lt _ hk0)
  rw [Nat.div_add_mod' j k, hj] at e1
  have := (hx (j / k) _ (List.getElem?_eq_getElem hi)).2 (j % k) u e1.symm
  rw [add_any']
  have e2 : o + j / k * k + j % k = o + j := by rw [Nat.add_assoc, Nat.div_add_mod' j k]
  rw [e2] at this
  exact this
theorem itmRow_one (l : List Itm) : ∀ u ∈ rowOf Itm.cells l, u.oneCell' = true := by
  intro u hu
  simp only [rowOf, List.mem_flatMap] at hu
  obtain ⟨x, _, hx⟩ := hu
  exact itm_one x u hx
/-- What an append onto an empty row leaves. -/
theorem out_of_append {w w1 w4 : World} {g : Nat} {L : List Itm} {v : Value} (hg : ∀ x ∈ L, x.wf) (hO : Own [] w w1) (hgw : w.heap.size ≤ g)
    (hown2 : w4.ownsRow 0 83 8 v (0 + L.length) ([] ++ rowOf Itm.cells L)) (hgrow : w1.grownBy w4 (Value.slice (some ⟨g, 0, none⟩) 0 0).ownBlock) (hnil : v = .slice none 0 0 ↔ Value.slice (some ⟨g, 0, none⟩) 0 0 = .slice none 0 0 ∧ L.length = 0)
    (hat : v.ownBlock = (Value.slice (some ⟨g, 0, none⟩) 0 0).ownBlock ∨ v.ownBlock = some w1.heap.size) :
    ∃ a' cap', v = .slice a' L.length cap' ∧ OutRow w.heap.size w4 a' cap' L ∧ Own [] w w4 := by
  rw [Nat.zero_add, List.nil_append] at hown2
  have hv : v ≠ .slice none 0 0 := fun e => by have := (hnil.1 e).1; simp at this
  obtain ⟨g', cap', he, hR⟩ := owned_row hown2 rfl hv
  subst he
  have hO4 : Own [] w w4 := hO.trans' (grown_row hgrow) (by
    intro z hz
    right
    simp [Value.ownBlock] at hz
    omega)
  refine ⟨_, cap', rfl, ⟨hR.owns Itm.cells_len, ?_, hg⟩, hO4⟩
  intro q hq
  simp only [Option.some.injEq] at hq
  subst hq
  show w.heap.size ≤ g'
  have hs := hO.size
  simp [Value.ownBlock] at hat
  omega
def ClonePost (L : List Itm) (w : World) (e : Ending) (w' : World) : Prop := ∃ a' cap', e = .returned (.slice a' L.length cap') ∧ OutRow w.heap.size w' a' cap' L ∧ Own [] w w'
set_option maxHeartbeats 1000000 in
theorem clone_any (a : Option Addr) (L : List Itm) (cap : Nat) (w : World) (h : ItemsAt w a L) (hb : L.length * 72 ≤ 140737488351232) :
    Calls Tryz.prog 26 #[.slice a L.length cap] w (ClonePost L w) := by
  have hl := h.1
  cases a with
  | none =>
    have h0 : L = [] := by
      cases L with
      | nil => rfl
      | cons x r => obtain ⟨b, o, e, _⟩ := h.2 (by simp); cases e
    subst h0
    have hq : (binOp .eql 42 (.slice none 0 cap) (.slice none 0 0)).run Tryz.prog w = .ok (.bool true) w := by kernel_rfl
    simp only [List.length_nil]
    go_enter Tryz.func26, Tryz.ntmps26
    go_wp2_with fail
    go_ret
    exact ⟨none, 0, rfl, OutRow.nil _ _, Own.refl _ _⟩
  | some ad =>
    obtain ⟨i0, hi, hz0, hz1, hz2⟩ := info_parts itmInfo
    have hown := owns_empty (T := 83) (k := 8) w
    have hA : Own [] w (w.alloc (.cells #[] 83)) := (Own.refl _ _).alloc _
    have hnews := RowsAt.flat Itm.cells_len (h.nil' hA)
    have hlen := rowOf_len Itm.cells_len L
    have h1 := itmRow_one L
    have hg := h.all_good
    have hq : ∀ n : Nat, (binOp .eql 42 (.slice (some ad) n cap) (.slice none 0 0)).run Tryz.prog w = .ok (.bool false) w := fun n => by kernel_rfl
    replace hown := Lib.hid hown
    replace hA := Lib.hid hA
    replace hnews := Lib.hid hnews
    replace hlen := Lib.hid hlen
    replace h1 := Lib.hid h1
    replace hg := Lib.hid hg
    clear h
    go_enter Tryz.func26, Tryz.ntmps26
    go_wp2_with (at_builtin; refine wpList_append_own_at _ rfl (.tmp 5) (.tmp 6) 42 rfl 0 83 i0 _ 8 72 Tryz.underlying42 hi hz0 hz1 hz2 rfl (by omega) (.slice (some ⟨w.heap.size, 0, none⟩) 0 0) 0 [] rfl hown.out ad L.length cap (rowOf Itm.cells L) rfl hlen.out hnews.out h1.out (by unfold maxLen; omega) (by omega) (Nat.zero_le _) ?_; intro v2 w4 hown2 hgrow hnil hat; obtain ⟨a2, cap2, rfl, hR2, hO2⟩ := out_of_append hg.out hA.out (Nat.le_refl _) hown2 hgrow hnil hat; clear hown2 hgrow hnil hat; replace hR2 := Lib.hid hR2; replace hO2 := Lib.hid hO2)
    go_ret
    exact ⟨a2, cap2, rfl, hR2.out, hO2.out⟩

/-! ### a metric's name -/
def nameOf (F : Int → ByteArray × Bool) (m : Met) : Int × ByteArray :=
  if m.name.toList.isEmpty then (if m.has then (if (F m.al).2 then (1, (F m.al).1) else (6, ⟨#[]⟩)) else (7, ⟨#[]⟩)) else (1, m.name)
def NamedPost (r : Int × ByteArray) (w : World) (e : Ending) (w' : World) : Prop :=
  ∃ er, e = .returned (.tuple #[.string r.2, er]) ∧ Own [] w w' ∧ ((r.1 = 1 ∧ er = .nilIface) ∨ (r.1 ≠ 1 ∧ ∃ q, er = .iface 160 (.pointer (some ⟨q, 0, none⟩)) ∧ w'.heap[q]? = some (.cells #[.int .i64 r.1] 164 (0, 0))))
set_option maxHeartbeats 2000000 in
theorem named_any (m : Met) (tb tm : Nat) (l : ATab) (ow : ByteArray) (w : World) (h : Tab w tb tm l) :
    Calls Tryz.prog 112 #[m.val, .pointer (some ⟨tb, 0, none⟩), .string ow] w (NamedPost (nameOf (aFind l ow) m) w) := by
  obtain ⟨nm, hs, al, ti, ty, hi_, tr, nu, ⟨x1, y1, z1⟩, ⟨x2, y2, z2⟩, vk, vn, vs, ⟨x3, y3, z3⟩, ⟨x4, y4, z4⟩⟩ := m
  have hO := (Own.refl [] w).alloc (.cells #[.string nm, .bool hs, .int .u64 al, .int .u64 ti, .int .u32 ty, .bool hi_, .bool tr, .bool nu, .slice x1 y1 z1, .slice x2 y2 z2, .int .i64 vk, .int .u64 vn, .string vs, .slice x3 y3 z3, .slice x4 y4 z4] 36)
  have F := find_any tb tm l ow al _ (h.own hO (by simp) (by simp))
  replace hO := Lib.hid hO
  unfold Met.val Met.cells nameOf
  simp only
  clear h
  generalize aFind l ow al = r at F ⊢
  obtain ⟨rn, rk⟩ := r
  simp only at F ⊢
  replace F := Lib.hid F
  by_cases hne : nm.toList.isEmpty = true
  · rw [if_pos hne]
    cases hs
    · simp only [Bool.false_eq_true, if_false]
      go_enter Tryz.func112, Tryz.ntmps112
      go_wp2_with fail
      refine (refuse_any _ _).mono ?_
      rintro e w2 ⟨q, rfl, hr2, hO2⟩
      replace hr2 := Lib.hid hr2
      replace hO2 := Lib.hid (hO.out.trans hO2)
      go_wp2_with fail
      go_ret2
      exact ⟨_, rfl, hO2.out, .inr ⟨by decide, _, rfl, hr2.out⟩⟩
    · simp only [if_true]
      cases rk
      · simp only [Bool.false_eq_true, if_false]
        go_enter Tryz.func112, Tryz.ntmps112
        go_wp2_with fail
        refine F.out.mono ?_
        rintro e w2 ⟨rfl, hO2⟩
        replace hO2 := Lib.hid (hO.out.trans hO2)
        go_wp2_with fail
        refine (refuse_any _ _).mono ?_
        rintro e w3 ⟨q, rfl, hr2, hO3⟩
        replace hr2 := Lib.hid hr2
        replace hO3 := Lib.hid (hO2.out.trans hO3)
        go_wp2_with fail
        go_ret2
        exact ⟨_, rfl, hO3.out, .inr ⟨by decide, _, rfl, hr2.out⟩⟩
      · simp only [if_true]
        go_enter Tryz.func112, Tryz.ntmps112
        go_wp2_with fail
        refine F.out.mono ?_
        rintro e w2 ⟨rfl, hO2⟩
        replace hO2 := Lib.hid (hO.out.trans hO2)
        go_wp2_with fail
        go_ret2
        exact ⟨_, rfl, hO2.out, .inl ⟨rfl, rfl⟩⟩
  · rw [if_neg hne]
    have hne' : nm.toList.isEmpty = false := by simpa using hne
    clear hne
    go_enter Tryz.func112, Tryz.ntmps112
    go_wp2_with fail
    go_ret2
    exact ⟨_, rfl, hO.out, .inl ⟨rfl, rfl⟩⟩
end Go.Proofs.YtjfmbjgniajagaaGreatDoor
