/- The document's aliases (crierref30): Find. -/
import Derived.Test.YtggcfehghgpjmaaDoorAlias
import Derived.Test.YtggcfehghgpjmaaDoorRow
import Derived.Deep.LoopGhost
import Derived.Deep.QuietTactic
import Derived.BigQuiet
namespace Go.Proofs.YtggcfehghgpjmaaDoor
open Go.RowKit

/-! ### plain -/
def rEnc (p : Int × Stands) : List Value := [.int .u64 p.1, .string p.2.1, .string p.2.2]
theorem rEnc_len (p : Int × Stands) : (rEnc p).length = 3 := rfl
def rHit (ow : ByteArray) (a : Int) (p : Int × Stands) : Bool := p.2.1 == ow && p.1 == a
def rFind (R : ATab) (ow : ByteArray) (a : Int) : ByteArray × Bool := match R.find? (rHit ow a) with | some p => (p.2.2, true) | none => (⟨#[]⟩, false)
def rAt (R : ATab) (i : Nat) : Int × Stands := R.getD i (0, ByteArray.empty, ByteArray.empty)
theorem rAt_get {R : ATab} {i : Nat} (h : i < R.length) : R[i]? = some (rAt R i) := by simp [rAt, List.getD, h]
theorem rFind_some {R : ATab} {ow : ByteArray} {a : Int} {i : Nat} (hi : i < R.length) (h0 : ∀ j, j < i → rHit ow a (rAt R j) = false) (h1 : rHit ow a (rAt R i) = true) : rFind R ow a = ((rAt R i).2.2, true) := by
  have e : R.find? (rHit ow a) = some (rAt R i) := by
    rw [List.find?_eq_some_iff_getElem]
    have hg : R[i] = rAt R i := by simp [rAt, List.getD, hi]
    refine ⟨h1, i, hi, hg, fun j hj => ?_⟩
    have := h0 j hj
    have hgj : R[j] = rAt R j := by simp [rAt, List.getD, show j < R.length by omega]
    rw [hgj]
    simp [this]
  unfold rFind
  rw [e]
theorem rFind_none {R : ATab} {ow : ByteArray} {a : Int} (h0 : ∀ j, j < R.length → rHit ow a (rAt R j) = false) : rFind R ow a = (⟨#[]⟩, false) := by
  have e : R.find? (rHit ow a) = none := by
    rw [List.find?_eq_none]
    intro x hx
    obtain ⟨j, hj, rfl⟩ := List.getElem_of_mem hx
    have := h0 j hj
    have hgj : R[j] = rAt R j := by simp [rAt, List.getD, hj]
    rw [hgj]
    simp [this]
  unfold rFind
  rw [e]

/-! ### in memory -/
structure RTab (w : World) (xb : Nat) (v : Value) (R : ATab) : Prop where
  row : w.heap[xb]? = some (.cells #[v] 52 (0, 0))
  own : w.ownsRow 0 77 3 v R.length (rowOf rEnc R)
  ne : v.ownBlock ≠ some xb
theorem rOwns_own {S : List Nat} {T : TypeId} {k base n : Nat} {w w' : World} {v : Value} {xs : List Value} (h : w.ownsRow base T k v n xs) (ho : Own S w w') (hS : ∀ b, v.ownBlock = some b → b ∉ S) : w'.ownsRow base T k v n xs := by
  obtain ⟨h1, h2⟩ := h
  refine ⟨h1, ?_⟩
  rcases h2 with h2 | ⟨g, cap, cur, rfl, hb, hg, h3⟩
  · exact .inl h2
  · exact .inr ⟨g, cap, cur, rfl, hb, ho.heap hg (hS g rfl), h3⟩
theorem RTab.own' {S : List Nat} {w w' : World} {xb : Nat} {v : Value} {R : ATab} (h : RTab w xb v R) (ho : Own S w w') (hx : xb ∉ S) (hS : ∀ b, v.ownBlock = some b → b ∉ S) : RTab w' xb v R :=
  ⟨ho.heap h.row hx, rOwns_own h.own ho hS, h.ne⟩
theorem RTab.nil' {w w' : World} {xb : Nat} {v : Value} {R : ATab} (h : RTab w xb v R) (ho : Own [] w w') : RTab w' xb v R := h.own' ho (by simp) (by simp)
theorem RTab.form {w : World} {xb : Nat} {v : Value} {R : ATab} (h : RTab w xb v R) : ∃ a cap, v = .slice a R.length cap ∧ (0 < R.length → ∃ g, a = some ⟨g, 0, none⟩ ∧ Row 77 rEnc 3 w g cap R) := by
  by_cases hv : v = .slice none 0 0
  · rcases h.own.2 with ⟨h1, h2⟩ | ⟨g, cap, cur, he, _⟩
    · exact ⟨none, 0, by rw [hv, h2], fun h0 => by omega⟩
    · rw [hv] at he; cases he
  · obtain ⟨g, cap, rfl, hR⟩ := owned_row h.own rfl hv
    exact ⟨_, cap, rfl, fun _ => ⟨g, rfl, hR⟩⟩
/-- The three cells of a row. -/
theorem row3 {w : World} {g cap : Nat} {R : ATab} (h : Row 77 rEnc 3 w g cap R) {k : Nat} (hk : k < R.length) :
    w.cell? ⟨g, k * 3, none⟩ = some (.int .u64 (rAt R k).1) ∧ w.cell? ⟨g, k * 3 + 1, none⟩ = some (.string (rAt R k).2.1) ∧ w.cell? ⟨g, k * 3 + 2, none⟩ = some (.string (rAt R k).2.2) :=
  ⟨h.cell rEnc_len (rAt_get hk) (c := 0) rfl, h.cell rEnc_len (rAt_get hk) (c := 1) rfl, h.cell rEnc_len (rAt_get hk) (c := 2) rfl⟩

set_option maxHeartbeats 2000000 in
theorem rfind_any (xb : Nat) (v : Value) (R : ATab) (ow : ByteArray) (al : Int) (w : World) (h : RTab w xb v R) (hl : R.length ≤ 1000000) :
    Calls Tryd.prog 33 #[.pointer (some ⟨xb, 0, none⟩), .string ow, .int .u64 al] w fun e w' => e = .returned (.tuple #[.string (rFind R ow al).1, .bool (rFind R ow al).2]) ∧ w = w' := by
  obtain ⟨a, cap, rfl, hrow⟩ := h.form
  have c0 : w.cell? ⟨xb, 0, none⟩ = some (.slice a R.length cap) := cell_of_row w xb 0 _ _ _ h.row
  generalize hr : rFind R ow al = r
  obtain ⟨r1, r2⟩ := r
  replace hr := Lib.hid hr
  replace hrow := Lib.hid hrow
  clear h
  go_enter Tryd.func33, Tryd.ntmps33
  go_wp2_with fail
  go_loopg [8] R.length (fun g s8 wr => ∃ k : Nat, k ≤ R.length ∧ g = R.length - k ∧ s8 = .int .i64 k ∧ wr = w ∧ Hid (∀ j, j < k → rHit ow al (rAt R j) = false))
  case atStart => exact ⟨0, by omega, by omega, rfl, rfl, Lib.hid (fun j hj => by omega)⟩
  case round =>
    obtain ⟨k, hk, rfl, rfl, rfl, hN⟩ := hrel
    by_cases hlt : k < R.length
    · obtain ⟨g, rfl, hR⟩ := hrow.out (by omega)
      obtain ⟨d0, d1, d2⟩ := row3 hR hlt
      have hlast : ∀ b, rHit ow al (rAt R k) = b → if b then (r1, r2) = ((rAt R k).2.2, true) else (∀ j, j < k + 1 → rHit ow al (rAt R j) = false) := by
        intro b hb
        cases b
        · simp only [Bool.false_eq_true, if_false]
          intro j hj
          by_cases e : j = k
          · rw [e]; exact hb
          · exact hN.out j (by omega)
        · simp only [if_true]
          rw [← hr.out]
          exact rFind_some hlt hN.out hb
      generalize rAt R k = x at d0 d1 d2 hlast
      obtain ⟨xa, xo, xn⟩ := x
      simp only at hlast d0 d1 d2
      have q0 : (0 : Int) ≤ k := by omega
      have q1 : (k : Int) < R.length := by omega
      clear hR
      cases ho : (xo == ow)
      · have hlast := Lib.hid (hlast false (by show (xo == ow && xa == al) = false; rw [ho]; rfl))
        have ho1 : (xo.toList == ow.toList) = false := by rw [← beq_toListBytes]; exact ho
        clear ho
        go_wp2_with fail
        go_roundg (R.length - (k + 1))
        case measure => omega
        case rel => exact ⟨k + 1, by omega, rfl, by go_num, rfl, Lib.hid (by simpa using hlast.out)⟩
      · have ho1 : (xo.toList == ow.toList) = true := by rw [← beq_toListBytes]; exact ho
        cases ha : (xa == al)
        · have hlast := Lib.hid (hlast false (by show (xo == ow && xa == al) = false; rw [ho, ha]; rfl))
          clear ho
          go_wp2_with fail
          go_roundg (R.length - (k + 1))
          case measure => omega
          case rel => exact ⟨k + 1, by omega, rfl, by go_num, rfl, Lib.hid (by simpa using hlast.out)⟩
        · have hlast := Lib.hid (hlast true (by show (xo == ow && xa == al) = true; rw [ho, ha]; rfl))
          clear ho
          go_wp2_with fail
          go_ret2
          have := hlast.out
          simp only [if_true, Prod.mk.injEq] at this
          exact ⟨by rw [this.1, this.2]; rfl, rfl⟩
    · have hr2 : (r1, r2) = (⟨#[]⟩, false) := by rw [← hr.out]; exact rFind_none (fun j hj => hN.out j (by omega))
      replace hr2 := Lib.hid hr2
      have hge : R.length ≤ k := by omega
      go_wp2_with fail
      go_ret2
      have := hr2.out
      simp only [Prod.mk.injEq] at this
      exact ⟨by rw [this.1, this.2]; rfl, rfl⟩
end Go.Proofs.YtggcfehghgpjmaaDoor
