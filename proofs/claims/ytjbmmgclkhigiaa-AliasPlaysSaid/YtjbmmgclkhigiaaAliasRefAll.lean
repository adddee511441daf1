/- The document's aliases (crierref30): Find. The document's aliases: Try. The document's aliases: Drop, Set. The document's aliases: Set. The two alias tables of one owner are one. Plain. The two alias tables hold the same, each in its order. Plain. -/
import Derived.Test.YtjbmmgclkhigiaaAlias
import Derived.Test.YtjbmmgclkhigiaaRow
import Derived.Deep.LoopGhost
import Derived.Deep.QuietTactic
import Derived.BigQuiet
import Derived.Test.YtjbmmgclkhigiaaItemsFind2
import Derived.Maps.AppendAt
import Derived.Deep.RegionLaw
import Derived.Deep.AppendLies
import Derived.Test.YtjbmmgclkhigiaaAliasSet
namespace Go.Proofs.Ytjbmmgclkhigiaa
open Go.RowKit

/-! ### plain -/
def rEnc (p : Int × Stands) : List Value := [.int .u64 p.1, .string p.2.1, .string p.2.2]
theorem rEnc_len (p : Int × Stands) : (rEnc p).length = 3 := rfl
def rHit (ow : ByteArray) (a : Int) (p : Int × Stands) : Bool := p.2.1 == ow && p.1 == a
def rFind (R : ATab) (ow : ByteArray) (a : Int) : ByteArray × Bool := match R.find? (rHit ow a) with | some p => (p.2.2, true) | none => (⟨#[]⟩, false)
def rAt (R : ATab) (i : Nat) : Int × Stands := R.getD i (0, ByteArray.empty, ByteArray.empty)
theorem rAt_get {R : ATab} {i : Nat} (h : i < R.length) : R[i]? = some (rAt R i) := by simp [rAt, List.getD, h]
theorem rFind_some {R : ATab} {ow : ByteArray} {a : Int} {i : Nat} (hi : i < R.length) (h0 : ∀ j, j < i → rHit ow a (rAt R j) = false) (h1 : rHit ow a (rAt R i) = true) : rFind R ow a = ((rAt R i).2.2, true) := by
  have e : R.find? (rHit ow a) = some (rAt R i) := by
    rw [List.find?_eq_some_iff_getElem]
    have hg : R[i] = rAt R i := by simp [rAt, List.getD, hi]
    refine ⟨h1, i, hi, hg, fun j hj => ?_⟩
    have := h0 j hj
    have hgj : R[j] = rAt R j := by simp [rAt, List.getD, show j < R.length by omega]
    rw [hgj]
    simp [this]
  unfold rFind
  rw [e]
theorem rFind_none {R : ATab} {ow : ByteArray} {a : Int} (h0 : ∀ j, j < R.length → rHit ow a (rAt R j) = false) : rFind R ow a = (⟨#[]⟩, false) := by
  have e : R.find? (rHit ow a) = none := by
    rw [List.find?_eq_none]
    intro x hx
    obtain ⟨j, hj, rfl⟩ := List.getElem_of_mem hx
    have := h0 j hj
    have hgj : R[j] = rAt R j := by simp [rAt, List.getD, hj]
    rw [hgj]
    simp [this]
  unfold rFind
  rw [e]

/-! ### in memory -/
structure RTab (w : World) (xb : Nat) (v : Value) (R : ATab) : Prop where
  row : w.heap[xb]? = some (.cells #[v] 46 (0, 0))
  own : w.ownsRow 0 52 3 v R.length (rowOf rEnc R)
  ne : v.ownBlock ≠ some xb
theorem rOwns_own {S : List Nat} {T : TypeId} {k base n : Nat} {w w' : World} {v : Value} {xs : List Value} (h : w.ownsRow base T k v n xs) (ho : Own S w w') (hS : ∀ b, v.ownBlock = some b → b ∉ S) : w'.ownsRow base T k v n xs := by
  obtain ⟨h1, h2⟩ := h
  refine ⟨h1, ?_⟩
  rcases h2 with h2 | ⟨g, cap, cur, rfl, hb, hg, h3⟩
  · exact .inl h2
  · exact .inr ⟨g, cap, cur, rfl, hb, ho.heap hg (hS g rfl), h3⟩
theorem RTab.own' {S : List Nat} {w w' : World} {xb : Nat} {v : Value} {R : ATab} (h : RTab w xb v R) (ho : Own S w w') (hx : xb ∉ S) (hS : ∀ b, v.ownBlock = some b → b ∉ S) : RTab w' xb v R :=
  ⟨ho.heap h.row hx, rOwns_own h.own ho hS, h.ne⟩
theorem RTab.nil' {w w' : World} {xb : Nat} {v : Value} {R : ATab} (h : RTab w xb v R) (ho : Own [] w w') : RTab w' xb v R := h.own' ho (by simp) (by simp)
theorem RTab.form {w : World} {xb : Nat} {v : Value} {R : ATab} (h : RTab w xb v R) : ∃ a cap, v = .slice a R.length cap ∧ (0 < R.length → ∃ g, a = some ⟨g, 0, none⟩ ∧ Row 52 rEnc 3 w g cap R) := by
  by_cases hv : v = .slice none 0 0
  · rcases h.own.2 with ⟨h1, h2⟩ | ⟨g, cap, cur, he, _⟩
    · exact ⟨none, 0, by rw [hv, h2], fun h0 => by omega⟩
    · rw [hv] at he; cases he
  · obtain ⟨g, cap, rfl, hR⟩ := owned_row h.own rfl hv
    exact ⟨_, cap, rfl, fun _ => ⟨g, rfl, hR⟩⟩
/-- The three cells of a row. -/
theorem row3 {w : World} {g cap : Nat} {R : ATab} (h : Row 52 rEnc 3 w g cap R) {k : Nat} (hk : k < R.length) :
    w.cell? ⟨g, k * 3, none⟩ = some (.int .u64 (rAt R k).1) ∧ w.cell? ⟨g, k * 3 + 1, none⟩ = some (.string (rAt R k).2.1) ∧ w.cell? ⟨g, k * 3 + 2, none⟩ = some (.string (rAt R k).2.2) :=
  ⟨h.cell rEnc_len (rAt_get hk) (c := 0) rfl, h.cell rEnc_len (rAt_get hk) (c := 1) rfl, h.cell rEnc_len (rAt_get hk) (c := 2) rfl⟩

set_option maxHeartbeats 2000000 in
theorem rfind_any (xb : Nat) (v : Value) (R : ATab) (ow : ByteArray) (al : Int) (w : World) (h : RTab w xb v R) (hl : R.length ≤ 1000000) :
    Calls Try.prog 20 #[.pointer (some ⟨xb, 0, none⟩), .string ow, .int .u64 al] w fun e w' => e = .returned (.tuple #[.string (rFind R ow al).1, .bool (rFind R ow al).2]) ∧ w = w' := by
  obtain ⟨a, cap, rfl, hrow⟩ := h.form
  have c0 : w.cell? ⟨xb, 0, none⟩ = some (.slice a R.length cap) := cell_of_row w xb 0 _ _ _ h.row
  generalize hr : rFind R ow al = r
  obtain ⟨r1, r2⟩ := r
  replace hr := Lib.hid hr
  replace hrow := Lib.hid hrow
  clear h
  go_enter Try.func20, Try.ntmps20
  go_wp2_with fail
  go_loopg [8] R.length (fun g s8 wr => ∃ k : Nat, k ≤ R.length ∧ g = R.length - k ∧ s8 = .int .i64 k ∧ wr = w ∧ Hid (∀ j, j < k → rHit ow al (rAt R j) = false))
  case atStart => exact ⟨0, by omega, by omega, rfl, rfl, Lib.hid (fun j hj => by omega)⟩
  case round =>
    obtain ⟨k, hk, rfl, rfl, rfl, hN⟩ := hrel
    by_cases hlt : k < R.length
    · obtain ⟨g, rfl, hR⟩ := hrow.out (by omega)
      obtain ⟨d0, d1, d2⟩ := row3 hR hlt
      have hlast : ∀ b, rHit ow al (rAt R k) = b → if b then (r1, r2) = ((rAt R k).2.2, true) else (∀ j, j < k + 1 → rHit ow al (rAt R j) = false) := by
        intro b hb
        cases b
        · simp only [Bool.false_eq_true, if_false]
          intro j hj
          by_cases e : j = k
          · rw [e]; exact hb
          · exact hN.out j (by omega)
        · simp only [if_true]
          rw [← hr.out]
          exact rFind_some hlt hN.out hb
      generalize rAt R k = x at d0 d1 d2 hlast
      obtain ⟨xa, xo, xn⟩ := x
      simp only at hlast d0 d1 d2
      have q0 : (0 : Int) ≤ k := by omega
      have q1 : (k : Int) < R.length := by omega
      clear hR
      cases ho : (xo == ow)
      · have hlast := Lib.hid (hlast false (by show (xo == ow && xa == al) = false; rw [ho]; rfl))
        have ho1 : (xo.toList == ow.toList) = false := by rw [← beq_toListBytes]; exact ho
        clear ho
        go_wp2_with fail
        go_roundg (R.length - (k + 1))
        case measure => omega
        case rel => exact ⟨k + 1, by omega, rfl, by go_num, rfl, Lib.hid (by simpa using hlast.out)⟩
      · have ho1 : (xo.toList == ow.toList) = true := by rw [← beq_toListBytes]; exact ho
        cases ha : (xa == al)
        · have hlast := Lib.hid (hlast false (by show (xo == ow && xa == al) = false; rw [ho, ha]; rfl))
          clear ho
          go_wp2_with fail
          go_roundg (R.length - (k + 1))
          case measure => omega
          case rel => exact ⟨k + 1, by omega, rfl, by go_num, rfl, Lib.hid (by simpa using hlast.out)⟩
        · have hlast := Lib.hid (hlast true (by show (xo == ow && xa == al) = true; rw [ho, ha]; rfl))
          clear ho
          go_wp2_with fail
          go_ret2
          have := hlast.out
          simp only [if_true, Prod.mk.injEq] at this
          exact ⟨by rw [this.1, this.2]; rfl, rfl⟩
    · have hr2 : (r1, r2) = (⟨#[]⟩, false) := by rw [← hr.out]; exact rFind_none (fun j hj => hN.out j (by omega))
      replace hr2 := Lib.hid hr2
      have hge : R.length ≤ k := by omega
      go_wp2_with fail
      go_ret2
      have := hr2.out
      simp only [Prod.mk.injEq] at this
      exact ⟨by rw [this.1, this.2]; rfl, rfl⟩
end Go.Proofs.Ytjbmmgclkhigiaa

namespace Go.Proofs.Ytjbmmgclkhigiaa
open Go.RowKit

/-! ### plain -/
def rDup (pre : List Itm) (x : Itm) : Bool := pre.any fun y => y.has && y.al == x.al
def rClash (R : ATab) (ow : ByteArray) (x : Itm) : Bool := R.any fun p => !(p.2.1 == ow) && p.1 == x.al
def rGo (R : ATab) (ow : ByteArray) : List Itm → List Itm → Nat → Int
  | _, [], n => if 64 < n then 6 else 0
  | pre, x :: r, n => if x.has then (if rDup pre x then 16 else if rClash R ow x then 16 else rGo R ow (pre ++ [x]) r (n + 1)) else rGo R ow (pre ++ [x]) r n
def rTry (R : ATab) (ow : ByteArray) (L : List Itm) : Int := rGo R ow [] L (aOthers R ow).length
theorem rGo_cons (R : ATab) (ow : ByteArray) (pre : List Itm) (x : Itm) (r : List Itm) (n : Nat) : rGo R ow pre (x :: r) n = if x.has then (if rDup pre x then 16 else if rClash R ow x then 16 else rGo R ow (pre ++ [x]) r (n + 1)) else rGo R ow (pre ++ [x]) r n := rfl
theorem take_itAt {L : List Itm} {k : Nat} (h : k < L.length) : L.take k ++ [itAt L k] = L.take (k + 1) ∧ L.drop k = itAt L k :: L.drop (k + 1) := by
  have hg : L[k] = itAt L k := by simp [itAt, List.getD, h]
  rw [← hg]
  exact ⟨(List.take_succ_eq_append_getElem h).symm, List.drop_eq_getElem_cons h⟩
theorem rDup_yes {L : List Itm} {i k : Nat} {x : Itm} (hk : k < i) (hi : i ≤ L.length) (h1 : (itAt L k).has = true) (h2 : ((itAt L k).al == x.al) = true) : rDup (L.take i) x = true := by
  unfold rDup
  rw [List.any_eq_true]
  refine ⟨itAt L k, ?_, by simp [h1, h2]⟩
  have hg : (L.take i)[k]? = some (itAt L k) := by rw [List.getElem?_take_of_lt hk]; exact itAt_get (by omega)
  exact List.mem_of_getElem? hg
theorem rDup_no {L : List Itm} {i : Nat} {x : Itm} (hi : i ≤ L.length) (h : ∀ k, k < i → ((itAt L k).has && (itAt L k).al == x.al) = false) : rDup (L.take i) x = false := by
  unfold rDup
  rw [List.any_eq_false]
  intro y hy
  obtain ⟨k, hk⟩ := List.getElem?_of_mem hy
  have hkl : k < i := by
    have := (List.getElem?_eq_some_iff.1 hk).1
    simp at this
    omega
  rw [List.getElem?_take_of_lt hkl, itAt_get (by omega)] at hk
  cases hk
  simpa using h k hkl
theorem rClash_yes {R : ATab} {ow : ByteArray} {k : Nat} {x : Itm} (hk : k < R.length) (h1 : ((rAt R k).2.1 == ow) = false) (h2 : ((rAt R k).1 == x.al) = true) : rClash R ow x = true := by
  unfold rClash
  rw [List.any_eq_true]
  exact ⟨rAt R k, List.mem_of_getElem? (rAt_get hk), by simp [h1, h2]⟩
theorem rClash_no {R : ATab} {ow : ByteArray} {x : Itm} (h : ∀ k, k < R.length → (!((rAt R k).2.1 == ow) && (rAt R k).1 == x.al) = false) : rClash R ow x = false := by
  unfold rClash
  rw [List.any_eq_false]
  intro y hy
  obtain ⟨k, hk⟩ := List.getElem?_of_mem hy
  have hkl := (List.getElem?_eq_some_iff.1 hk).1
  rw [rAt_get hkl] at hk
  cases hk
  simpa using h k hkl
theorem aOthers_take {R : ATab} {ow : ByteArray} {k : Nat} (h : k < R.length) : (aOthers (R.take (k + 1)) ow).length = (aOthers (R.take k) ow).length + if (rAt R k).2.1 == ow then 0 else 1 := by
  have hg : R[k] = rAt R k := by simp [rAt, List.getD, h]
  rw [List.take_succ_eq_append_getElem h, hg]
  unfold aOthers
  rw [List.filter_append, List.length_append]
  congr 1
  cases hx : ((rAt R k).2.1 == ow) <;> simp [hx]
theorem aOthers_le (R : ATab) (ow : ByteArray) : (aOthers R ow).length ≤ R.length := List.length_filter_le _ _

set_option maxRecDepth 100000 in
set_option maxHeartbeats 8000000 in
theorem rtry_any (xb : Nat) (v : Value) (R : ATab) (ow : ByteArray) (a : Option Addr) (L : List Itm) (c : Nat) (w : World) (h : RTab w xb v R) (hl : R.length ≤ 1000000) (hA : ItemsAt w a L) :
    Calls Try.prog 18 #[.pointer (some ⟨xb, 0, none⟩), .string ow, .slice a L.length c] w fun e w' => e = .returned (.int .i64 (rTry R ow L)) ∧ Own [] w w' := by
  obtain ⟨ra, cap, rfl, hrow⟩ := h.form
  have hlL := hA.1
  have c0 : w.cell? ⟨xb, 0, none⟩ = some (.slice ra R.length cap) := cell_of_row w xb 0 _ _ _ h.row
  have hxl := lt_of_heap h.row
  have hle := aOthers_le R ow
  generalize hr : rTry R ow L = r
  unfold rTry at hr
  generalize hN0 : (aOthers R ow).length = N0 at hr hle
  replace hr := Lib.hid hr
  replace hN0 := Lib.hid hN0
  replace hrow := Lib.hid hrow
  replace hA := Lib.hid hA
  clear h
  go_enter Try.func18, Try.ntmps18
  go_wp2_with fail
  go_loopg [7, 8] R.length (fun g s7 s8 wr => ∃ k n : Nat, k ≤ R.length ∧ g = R.length - k ∧ s8 = .int .i64 k ∧ s7 = .int .i64 n ∧ n ≤ k ∧ wr = w ∧ Hid (n = (aOthers (R.take k) ow).length))
  case atStart => exact ⟨0, 0, by omega, by omega, rfl, rfl, by omega, rfl, Lib.hid rfl⟩
  case round =>
    obtain ⟨k, n, hk, rfl, rfl, rfl, hn, hwr, hN⟩ := hrel
    have hwr2 := hwr.symm
    clear hwr
    subst hwr2
    by_cases hlt : k < R.length
    · obtain ⟨g, rfl, hR⟩ := hrow.out (by omega)
      obtain ⟨d0, d1, d2⟩ := row3 hR hlt
      have hs := aOthers_take (ow := ow) hlt
      rw [← hN.out] at hs
      generalize rAt R k = x at d0 d1 d2 hs
      obtain ⟨xa, xo, xn⟩ := x
      simp only at d0 d1 d2 hs
      have q0 : (0 : Int) ≤ k := by omega
      have q1 : (k : Int) < R.length := by omega
      clear hR
      cases ho : (xo == ow)
      · rw [ho] at hs
        replace hs := Lib.hid hs
        have ho1 : (xo.toList != ow.toList) = true := by rw [bne, ← beq_toListBytes, ho]; rfl
        have ho2 : (xo.toList == ow.toList) = false := by rw [← beq_toListBytes, ho]
        clear ho
        go_wp2_with fail
        go_roundg (R.length - (k + 1))
        case measure => omega
        case rel => exact ⟨k + 1, n + 1, by omega, rfl, by go_num, by go_num, by omega, rfl, Lib.hid (by have := hs.out; simpa using this.symm)⟩
      · rw [ho] at hs
        replace hs := Lib.hid hs
        have ho1 : (xo.toList != ow.toList) = false := by rw [bne, ← beq_toListBytes, ho]; rfl
        have ho2 : (xo.toList == ow.toList) = true := by rw [← beq_toListBytes, ho]
        clear ho
        go_wp2_with fail
        go_roundg (R.length - (k + 1))
        case measure => omega
        case rel => exact ⟨k + 1, n, by omega, rfl, by go_num, rfl, by omega, rfl, Lib.hid (by have := hs.out; simpa using this.symm)⟩
    · obtain rfl : k = R.length := by omega
      have hnN : n = N0 := by rw [← hN0.out, hN.out, List.take_length]
      subst hnN
      clear hN
      go_wp2_with fail
      go_loopg [7, 9] L.length (fun g s7 s9 wr => ∃ i m : Nat, i ≤ L.length ∧ g = L.length - i ∧ s9 = .int .i64 i ∧ s7 = .int .i64 m ∧ m ≤ 1000000 + i ∧ Aside (Own [] w wr ∧ rGo R ow (L.take i) (L.drop i) m = r))
      case atStart => exact ⟨0, n, by omega, by omega, rfl, rfl, by omega, Own.refl _ _, hr.out⟩
      case round =>
        obtain ⟨i, m, hi, rfl, rfl, rfl, hm, hO, hG⟩ := hrel
        clear hr
        by_cases hil : i < L.length
        · obtain ⟨b, o, rfl, hb, _, hc⟩ := (hA.out.nil' hO).item hil
          obtain ⟨ht1, ht2⟩ := take_itAt hil
          rw [ht2, rGo_cons, ht1] at hG
          have hdy : ∀ k, k < i → (itAt L k).has = true → ((itAt L k).al == (itAt L i).al) = true → rDup (L.take i) (itAt L i) = true := fun k h1 h2 h3 => rDup_yes h1 hi h2 h3
          have hdn := rDup_no (x := itAt L i) hi
          have hcy : ∀ k, k < R.length → ((rAt R k).2.1 == ow) = false → ((rAt R k).1 == (itAt L i).al) = true → rClash R ow (itAt L i) = true := fun k h1 h2 h3 => rClash_yes h1 h2 h3
          have hcn := rClash_no (R := R) (ow := ow) (x := itAt L i)
          generalize itAt L i = x at hc hG hdy hdn hcy hcn
          obtain ⟨nm, hs, al, ty, nu, vk, vn, vs⟩ := x
          simp only at hG hdy hdn hcy hcn
          generalize rDup (L.take i) _ = D at hG hdy hdn
          generalize rClash R ow _ = C at hG hcy hcn
          have q0 : (0 : Int) ≤ i := by omega
          have q1 : (i : Int) < L.length := by omega
          have e1 := hc 1 _ rfl
          replace hG := Lib.hid hG
          replace hdy := Lib.hid hdy
          replace hdn := Lib.hid hdn
          replace hcy := Lib.hid hcy
          replace hcn := Lib.hid hcn
          replace hO := Lib.hid hO
          replace hc := Lib.hid hc
          have c1 : wr.cell? ⟨xb, 0, none⟩ = some (.slice ra R.length cap) := (hO.out.cell (p := ⟨xb, 0, none⟩) hxl (by simp)).trans c0
          clear ht1 ht2
          cases hs
          · replace hG : Hid (rGo R ow (L.take (i + 1)) (L.drop (i + 1)) m = r) := Lib.hid (by simpa using hG.out)
            go_wp2_with fail
            go_roundg (L.length - (i + 1))
            case measure => omega
            case rel => exact ⟨i + 1, m, by omega, rfl, by go_num, rfl, by omega, hO.out, hG.out⟩
          · replace hG : Hid ((if D = true then 16 else if C = true then 16 else rGo R ow (L.take (i + 1)) (L.drop (i + 1)) (m + 1)) = r) := Lib.hid (by simpa using hG.out)
            obtain ⟨wa, rfl⟩ : ∃ wa : World, wa = wr := ⟨_, rfl⟩
            go_wp2_with fail
            go_loopg [10] i (fun g s10 wr => ∃ k : Nat, k ≤ i ∧ g = i - k ∧ s10 = .int .i64 k ∧ Aside (Own [] wa wr ∧ ∀ j, j < k → ((itAt L j).has && (itAt L j).al == al) = false))
            case atStart => exact ⟨0, by omega, by omega, rfl, Own.refl _ _, fun j hj => by omega⟩
            case round =>
              obtain ⟨k, hk, rfl, rfl, hOk, hno⟩ := hrel
              by_cases hki : k < i
              · obtain ⟨b', o', he', _, _, hck⟩ := (hA.out.nil' (hO.out.trans hOk)).item (show k < L.length by omega)
                cases he'
                have f1 := hck 1 _ rfl
                have f2 := hck 2 _ rfl
                have f3 := At8.own (x := ⟨nm, true, al, ty, nu, vk, vn, vs⟩) hc.out hOk hb (by simp) 2 _ rfl
                have hdk := hdy.out k hki
                have hns : ∀ bq, ((itAt L k).has && (itAt L k).al == al) = bq → bq = false → ∀ j, j < k + 1 → ((itAt L j).has && (itAt L j).al == al) = false := by
                  intro bq h1 h2 j hj
                  by_cases e : j = k
                  · rw [e, h1, h2]
                  · exact hno j (by omega)
                generalize (itAt L k).has = kh at f1 hdk hns
                generalize (itAt L k).al = ka at f2 hdk hns
                have p0 : (0 : Int) ≤ k := by omega
                have p1 : (k : Int) < L.length := by omega
                replace hOk := Lib.hid hOk
                replace hdk := Lib.hid hdk
                replace hns := Lib.hid hns
                clear hck hno c1 e1
                cases kh
                · go_wp2_with fail
                  go_quiet (fail)
                  go_wp2_with fail
                  go_roundg (i - (k + 1))
                  case measure => omega
                  case rel => exact ⟨k + 1, by omega, rfl, by go_num, hOk.out.drewN _, hns.out false (by simp) rfl⟩
                · cases hka : (ka == al)
                  · go_wp2_with fail
                    go_quiet (fail)
                    go_wp2_with fail
                    go_roundg (i - (k + 1))
                    case measure => omega
                    case rel => exact ⟨k + 1, by omega, rfl, by go_num, hOk.out.drewN _, hns.out false (by simp [hka]) rfl⟩
                  · have hr16 : r = 16 := by have := hG.out; rw [hdk.out rfl hka] at this; simpa using this.symm
                    replace hr16 := Lib.hid hr16
                    go_wp2_with fail
                    go_quiet (fail)
                    go_wp2_with fail
                    go_ret
                    exact ⟨by rw [hr16.out]; rfl, (hO.out.trans hOk.out).drewN _⟩
              · obtain rfl : k = i := by omega
                have hD : D = false := hdn.out hno
                subst hD
                replace hG : Hid ((if C = true then 16 else rGo R ow (L.take (k + 1)) (L.drop (k + 1)) (m + 1)) = r) := Lib.hid (by simpa using hG.out)
                have hOO := hO.out.trans hOk
                have c2 : wr.cell? ⟨xb, 0, none⟩ = some (.slice ra R.length cap) := (hOk.cell (p := ⟨xb, 0, none⟩) (Nat.lt_of_lt_of_le hxl hO.out.size) (by simp)).trans c1
                have f3 := At8.own (x := ⟨nm, true, al, ty, nu, vk, vn, vs⟩) hc.out hOk hb (by simp) 2 _ rfl
                replace hOO := Lib.hid hOO
                have hbw : b < wr.heap.size := Nat.lt_of_lt_of_le hb hOk.size
                have hxw : xb < wr.heap.size := Nat.lt_of_lt_of_le hxl hOO.out.size
                clear hno hdn hdy e1 c1 hOk hO hc
                obtain ⟨wz, rfl⟩ : ∃ wz : World, wz = wr := ⟨_, rfl⟩
                go_wp2_with fail
                go_loopg [11] R.length (fun g s11 wr => ∃ j : Nat, j ≤ R.length ∧ g = R.length - j ∧ s11 = .int .i64 j ∧ Aside (Own [] wz wr ∧ ∀ q, q < j → (!((rAt R q).2.1 == ow) && (rAt R q).1 == al) = false))
                case atStart => exact ⟨0, by omega, by omega, rfl, Own.refl _ _, fun j hj => by omega⟩
                case round =>
                  obtain ⟨j, hj, rfl, rfl, hOj, hnj⟩ := hrel
                  have c3 : wr.cell? ⟨xb, 0, none⟩ = some (.slice ra R.length cap) := (hOj.cell (p := ⟨xb, 0, none⟩) hxw (by simp)).trans c2
                  have f4 : wr.cell? ⟨b, o + k * 8 + 2, none⟩ = some (.int .u64 al) := (hOj.cell (p := ⟨b, o + k * 8 + 2, none⟩) hbw (by simp)).trans f3
                  by_cases hjl : j < R.length
                  · obtain ⟨g, rfl, hR⟩ := hrow.out (by omega)
                    obtain ⟨d0, d1, d2⟩ := row3 (hR.own (hOO.out.trans hOj) (by simp)) hjl
                    have hck := hcy.out j hjl
                    have hns : ∀ bq, (!((rAt R j).2.1 == ow) && (rAt R j).1 == al) = bq → bq = false → ∀ q, q < j + 1 → (!((rAt R q).2.1 == ow) && (rAt R q).1 == al) = false := by
                      intro bq h1 h2 q hq
                      by_cases e : q = j
                      · rw [e, h1, h2]
                      · exact hnj q (by omega)
                    generalize rAt R j = x at d0 d1 d2 hck hns
                    obtain ⟨xa, xo, xn⟩ := x
                    simp only at d0 d1 d2 hck hns
                    have p0 : (0 : Int) ≤ j := by omega
                    have p1 : (j : Int) < R.length := by omega
                    replace hOj := Lib.hid hOj
                    replace hck := Lib.hid hck
                    replace hns := Lib.hid hns
                    clear hR hnj d2 c2 f3
                    cases ho : (xo == ow)
                    · have ho1 : (xo.toList != ow.toList) = true := by rw [bne, ← beq_toListBytes, ho]; rfl
                      have ho2 : (xo.toList == ow.toList) = false := by rw [← beq_toListBytes, ho]
                      cases hxa : (xa == al)
                      · replace hns := Lib.hid (hns.out false (by rw [ho, hxa]; rfl) rfl)
                        clear ho
                        go_wp2_with fail
                        go_quiet (fail)
                        go_wp2_with fail
                        go_roundg (R.length - (j + 1))
                        case measure => omega
                        case rel => exact ⟨j + 1, by omega, rfl, by go_num, hOj.out.drewN _, hns.out⟩
                      · have hr16 : r = 16 := by have := hG.out; rw [hck.out ho hxa] at this; simpa using this.symm
                        replace hr16 := Lib.hid hr16
                        clear ho
                        go_wp2_with fail
                        go_quiet (fail)
                        go_wp2_with fail
                        go_ret
                        exact ⟨by rw [hr16.out]; rfl, (hOO.out.trans hOj.out).drewN _⟩
                    · have ho1 : (xo.toList != ow.toList) = false := by rw [bne, ← beq_toListBytes, ho]; rfl
                      have ho2 : (xo.toList == ow.toList) = true := by rw [← beq_toListBytes, ho]
                      replace hns := Lib.hid (hns.out false (by rw [ho]; rfl) rfl)
                      clear ho
                      go_wp2_with fail
                      go_quiet (fail)
                      go_wp2_with fail
                      go_roundg (R.length - (j + 1))
                      case measure => omega
                      case rel => exact ⟨j + 1, by omega, rfl, by go_num, hOj.out.drewN _, hns.out⟩
                  · obtain rfl : j = R.length := by omega
                    have hC : C = false := hcn.out hnj
                    subst hC
                    replace hG : Hid (rGo R ow (L.take (k + 1)) (L.drop (k + 1)) (m + 1) = r) := Lib.hid (by simpa using hG.out)
                    replace hOj := Lib.hid (hOO.out.trans hOj)
                    clear hnj
                    go_wp2_with fail
                    go_roundg (L.length - (k + 1))
                    case measure => omega
                    case rel => exact ⟨k + 1, m + 1, by omega, rfl, by go_num, by go_num, by omega, hOj.out, hG.out⟩
        · obtain rfl : i = L.length := by omega
          rw [List.drop_eq_nil_of_le (Nat.le_refl _)] at hG
          have hG2 : (if 64 < m then (6 : Int) else 0) = r := hG
          replace hO := Lib.hid hO
          clear hG
          by_cases h64 : 64 < m
          · rw [if_pos h64] at hG2
            replace hG2 := Lib.hid hG2
            go_wp2_with fail
            go_ret
            exact ⟨by rw [← hG2.out]; rfl, hO.out⟩
          · rw [if_neg h64] at hG2
            replace hG2 := Lib.hid hG2
            go_wp2_with fail
            go_ret
            exact ⟨by rw [← hG2.out]; rfl, hO.out⟩
end Go.Proofs.Ytjbmmgclkhigiaa

namespace Go.Proofs.Ytjbmmgclkhigiaa
open Go.RowKit

/-! ### a row of the call's own -/
structure ROut (B : Nat) (w : World) (a : Option Addr) (cap : Nat) (R : ATab) : Prop where
  own : w.ownsRow 0 52 3 (.slice a R.length cap) R.length (rowOf rEnc R)
  fresh : ∀ q, a = some q → B ≤ q.block
theorem ROut.nil (B : Nat) (w : World) : ROut B w none 0 [] := ⟨⟨by simp [rowOf], .inl ⟨rfl, rfl⟩⟩, by simp⟩
theorem ROut.nil' {B : Nat} {w w' : World} {a : Option Addr} {cap : Nat} {R : ATab} (h : ROut B w a cap R) (ho : Own [] w w') : ROut B w' a cap R := ⟨rOwns_own h.own ho (by simp), h.fresh⟩
theorem grown_row' {w w' : World} {row : Option Nat} (h : w.grownBy w' row) : Own row.toList w w' :=
  ⟨h.os, h.tape, h.output, h.size, fun k hk hn => h.block k hk (by cases row with | none => simp | some g => simpa using hn)⟩
theorem ROut.push {w0 w1 w4 : World} {a : Option Addr} {cap n : Nat} {R : ATab} {x : Int × Stands} {v2 : Value} (h : ROut w0.heap.size w1 a cap R) (hn : n = R.length) (hO : Own [] w0 w1)
    (hown2 : w4.ownsRow 0 52 3 v2 (n + 1) (rowOf rEnc R ++ rEnc x)) (hgrow : w1.grownBy w4 (Value.slice a n cap).ownBlock) (hnil : v2 = .slice none 0 0 ↔ Value.slice a n cap = .slice none 0 0 ∧ 1 = 0)
    (hat : v2.ownBlock = (Value.slice a n cap).ownBlock ∨ v2.ownBlock = some w1.heap.size) :
    ∃ a' cap', v2 = .slice a' (n + 1) cap' ∧ ROut w0.heap.size w4 a' cap' (R ++ [x]) ∧ Own [] w0 w4 := by
  subst hn
  have e : rowOf rEnc R ++ rEnc x = rowOf rEnc (R ++ [x]) := by simp [rowOf]
  rw [e] at hown2
  have hl : R.length + 1 = (R ++ [x]).length := by simp
  obtain ⟨g, cap', he, hR⟩ := owned_row hown2 hl (fun e => by have := (hnil.1 e).2; omega)
  subst he
  have hO4 : Own [] w0 w4 := hO.trans' (grown_row' hgrow) (by
    intro z hz
    right
    cases a with
    | none => simp [Value.ownBlock] at hz
    | some q => simp [Value.ownBlock] at hz; subst hz; exact h.fresh q rfl)
  refine ⟨_, cap', by rw [hl], ⟨hR.owns rEnc_len, ?_⟩, hO4⟩
  intro q hq
  simp only [Option.some.injEq] at hq
  subst hq
  show w0.heap.size ≤ g
  have hs := hO.size
  cases a with
  | none => simp [Value.ownBlock] at hat; omega
  | some q =>
    have := h.fresh q rfl
    simp [Value.ownBlock] at hat
    omega
theorem rowInfo : (Try.prog.info? 52).map (fun i => (i.zero, i.size, i.bytes)) = some (some (.agg #[.int .u64 0, .string ⟨#[]⟩, .string ⟨#[]⟩]), 3, 40) := by kernel_rfl
theorem row_one (x : Int × Stands) : ∀ u ∈ rEnc x, u.oneCell' = true := by
  intro u hu
  simp [rEnc] at hu
  rcases hu with rfl | rfl | rfl <;> rfl
theorem aOthers_snoc {R : ATab} {ow : ByteArray} {k : Nat} (h : k < R.length) : aOthers (R.take (k + 1)) ow = aOthers (R.take k) ow ++ if (rAt R k).2.1 == ow then [] else [rAt R k] := by
  have hg : R[k] = rAt R k := by simp [rAt, List.getD, h]
  rw [List.take_succ_eq_append_getElem h, hg]
  unfold aOthers
  rw [List.filter_append]
  congr 1
  cases hx : ((rAt R k).2.1 == ow) <;> simp [hx]
def RDropPost (xb : Nat) (R : ATab) (ow : ByteArray) (w : World) (e : Ending) (w' : World) : Prop :=
  e = .returned (.int .i64 ((R.length : Int) - (aOthers R ow).length)) ∧ ∃ v', RTab w' xb v' (aOthers R ow) ∧ Own [xb] w w' ∧ ∀ g, v'.ownBlock = some g → w.heap.size ≤ g
theorem rdrop_end {xb : Nat} {v : Value} {X : ATab} {w wr : World} {oa : Option Addr} {oc : Nat} (hrow : w.heap[xb]? = some (.cells #[v] 46 (0, 0))) (hR : ROut w.heap.size wr oa oc X) (hO : Own [] w wr) :
    ∃ v', RTab (wr.setCell ⟨xb, 0, none⟩ (.slice oa X.length oc)) xb v' X ∧ Own [xb] w (wr.setCell ⟨xb, 0, none⟩ (.slice oa X.length oc)) ∧ ∀ g, v'.ownBlock = some g → w.heap.size ≤ g := by
  have hxl := lt_of_heap hrow
  have hge : ∀ g, (Value.slice oa X.length oc).ownBlock = some g → w.heap.size ≤ g := by
    intro g hg
    cases oa with
    | none => cases hg
    | some q => simp [Value.ownBlock] at hg; subst hg; exact hR.fresh q rfl
  have hO2 : Own [xb] wr (wr.setCell ⟨xb, 0, none⟩ (.slice oa X.length oc)) := (Own.refl _ _).setCell (by simp) _
  refine ⟨_, ⟨heap_setCell_same _ _ _ _ _ _ (hO.heap hrow (by simp)), rOwns_own hR.own hO2 (fun g hg => ?_), fun e => ?_⟩, hO.nil.trans hO2, hge⟩
  · have := hge g hg
    simp
    omega
  · have := hge xb e
    omega
set_option maxRecDepth 100000 in
set_option maxHeartbeats 4000000 in
theorem rdrop_any (xb : Nat) (v : Value) (R : ATab) (ow : ByteArray) (w : World) (h : RTab w xb v R) (hl : R.length ≤ 1000000) :
    Calls Try.prog 16 #[.pointer (some ⟨xb, 0, none⟩), .string ow] w (RDropPost xb R ow w) := by
  obtain ⟨i0, hi, hz0, hz1, hz2⟩ := info_parts rowInfo
  obtain ⟨ra, cap, rfl, hrow⟩ := h.form
  have c0 : w.cell? ⟨xb, 0, none⟩ = some (.slice ra R.length cap) := cell_of_row w xb 0 _ _ _ h.row
  have hrw := h.row
  have hxl := lt_of_heap h.row
  replace hrow := Lib.hid hrow
  replace hrw := Lib.hid hrw
  clear h
  go_enter Try.func16, Try.ntmps16
  go_wp2_with fail
  go_loopg [5, 6] R.length (fun g s5 s6 wr => ∃ (k : Nat) (oa : Option Addr) (oc n : Nat) (X : ATab), k ≤ R.length ∧ g = R.length - k ∧ s6 = .int .i64 k ∧ s5 = .slice oa n oc ∧ n ≤ k ∧ Aside (X.length = n ∧ ROut w.heap.size wr oa oc X ∧ Own [] w wr ∧ X = aOthers (R.take k) ow))
  case atStart => exact ⟨0, none, 0, 0, [], by omega, by omega, rfl, rfl, by omega, rfl, ROut.nil _ _, Own.refl _ _, rfl⟩
  case round =>
    obtain ⟨k, oa, oc, n, X, hk, rfl, rfl, rfl, hn, hXn, hX, hO, hXe⟩ := hrel
    have c1 : wr.cell? ⟨xb, 0, none⟩ = some (.slice ra R.length cap) := (hO.cell (p := ⟨xb, 0, none⟩) hxl (by simp)).trans c0
    by_cases hlt : k < R.length
    · obtain ⟨g, rfl, hR⟩ := hrow.out (by omega)
      obtain ⟨d0, d1, d2⟩ := row3 (hR.own hO (by simp)) hlt
      have hs := aOthers_snoc (ow := ow) hlt
      rw [← hXe] at hs
      generalize rAt R k = x at d0 d1 d2 hs
      obtain ⟨xa, xo, xn⟩ := x
      simp only at d0 d1 d2 hs
      have q0 : (0 : Int) ≤ k := by omega
      have q1 : (k : Int) < R.length := by omega
      clear hR hXe
      cases ho : (xo == ow)
      · rw [ho] at hs
        have ho1 : (xo.toList != ow.toList) = true := by rw [bne, ← beq_toListBytes, ho]; rfl
        have ho2 : (xo.toList == ow.toList) = false := by rw [← beq_toListBytes, ho]
        have hA1 := (Own.refl [] wr).alloc (.cells #[.int .u64 xa, .string xo, .string xn] 52)
        have hown := Lib.hid ((hX.nil' hA1).own)
        have hXA := Lib.hid (hX.nil' hA1)
        have hOA := Lib.hid (hO.trans hA1)
        have hnew := Lib.hid (World.news_of_block (heap_alloc_new wr (.cells #[.int .u64 xa, .string xo, .string xn] 52)))
        have hone := Lib.hid (row_one (xa, xo, xn))
        rw [hXn] at hown
        replace hs := Lib.hid hs
        replace hXn := Lib.hid hXn
        replace hO := Lib.hid hO
        replace hX := Lib.hid hX
        clear ho hA1
        unfold rEnc at hone
        go_wp2_with (at_builtin; refine wpList_append_own_at _ rfl (.tmp 27) (.tmp 35) 44 rfl 0 52 i0 _ 3 40 Try.underlying44 hi hz0 hz1 hz2 rfl (by omega) (.slice oa n oc) n (rowOf rEnc X) rfl hown.out ⟨wr.heap.size, 0, none⟩ 1 1 [.int .u64 xa, .string xo, .string xn] rfl rfl hnew.out hone.out (by unfold maxLen; omega) (by omega) (Nat.zero_le _) ?_; intro v2 w4 hown2 hgrow hnil hat; obtain ⟨a2, cap2, rfl, hR2, hO2⟩ := ROut.push (x := (xa, xo, xn)) hXA.out hXn.out.symm hOA.out hown2 hgrow hnil hat; clear hown2 hgrow hnil hat; replace hR2 := Lib.hid hR2; replace hO2 := Lib.hid hO2)
        go_roundg (R.length - (k + 1))
        case measure => omega
        case rel => exact ⟨k + 1, a2, cap2, n + 1, _, by omega, rfl, by go_num, rfl, by omega, by have := hXn.out; simp [this], hR2.out, hO2.out, by rw [hs.out]; rfl⟩
      · rw [ho] at hs
        have ho1 : (xo.toList != ow.toList) = false := by rw [bne, ← beq_toListBytes, ho]; rfl
        have ho2 : (xo.toList == ow.toList) = true := by rw [← beq_toListBytes, ho]
        replace hs := Lib.hid hs
        replace hXn := Lib.hid hXn
        replace hO := Lib.hid hO
        replace hX := Lib.hid hX
        clear ho
        go_wp2_with fail
        go_roundg (R.length - (k + 1))
        case measure => omega
        case rel => exact ⟨k + 1, oa, oc, n, X, by omega, rfl, by go_num, rfl, by omega, hXn.out, hX.out, hO.out, by rw [hs.out]; simp⟩
    · obtain rfl : k = R.length := by omega
      rw [List.take_length] at hXe
      have hE := rdrop_end hrw.out hX hO
      rw [hXn] at hE
      have hl2 : (aOthers R ow).length = n := by rw [← hXe, hXn]
      rw [hXe] at hE
      have f1 : wr.frozen? ⟨xb, 0, none⟩ = false := frozen_of_row wr xb 0 _ _ (hO.heap hrw.out (by simp))
      replace hE := Lib.hid hE
      replace hl2 := Lib.hid hl2
      clear hX hXe hO hXn
      go_wp2_with fail
      go_ret
      unfold RDropPost
      rw [hl2.out]
      exact ⟨rfl, hE.out⟩
end Go.Proofs.Ytjbmmgclkhigiaa

namespace Go.Proofs.Ytjbmmgclkhigiaa
open Go.RowKit

/-! ### plain -/
def rWant (ow : ByteArray) (L : List Itm) : ATab := (L.filter (·.has)).map fun x => (x.al, (ow, x.name))
def rSet (R : ATab) (ow : ByteArray) (L : List Itm) : Int × ATab := if rTry R ow L = 0 then (0, aOthers R ow ++ rWant ow L) else (rTry R ow L, R)
theorem rGo_zero (R : ATab) (ow : ByteArray) : ∀ (L pre : List Itm) (n : Nat), rGo R ow pre L n = 0 → n + (L.filter (·.has)).length ≤ 64
  | [], pre, n, h => by
    simp only [rGo] at h
    split at h
    · simp at h
    · simp; omega
  | x :: r, pre, n, h => by
    rw [rGo_cons] at h
    cases hx : x.has
    · rw [hx] at h
      simp only [Bool.false_eq_true, if_false] at h
      have := rGo_zero R ow r _ n h
      simpa [hx] using this
    · rw [hx] at h
      simp only [if_true] at h
      split at h
      · simp at h
      · split at h
        · simp at h
        · have := rGo_zero R ow r _ (n + 1) h
          simp [hx]
          omega
theorem rWant_snoc {L : List Itm} {i : Nat} (h : i < L.length) (ow : ByteArray) : rWant ow (L.take (i + 1)) = rWant ow (L.take i) ++ if (itAt L i).has then [((itAt L i).al, (ow, (itAt L i).name))] else [] := by
  rw [← (take_itAt h).1]
  unfold rWant
  rw [List.filter_append, List.map_append]
  congr 1
  cases hx : (itAt L i).has <;> simp [hx]
theorem rWant_le (L : List Itm) (i : Nat) (ow : ByteArray) : (rWant ow (L.take i)).length ≤ (L.filter (·.has)).length := by
  unfold rWant
  rw [List.length_map]
  exact ((List.take_sublist i L).filter _).length_le

theorem rpush_end {xb g cap n : Nat} {oa : Option Addr} {oc : Nat} {X : ATab} {x : Int × Stands} {w wr w1 : World} {o : Obj} (h : RTab wr xb (.slice oa n oc) X) (hn : n = X.length) (hO : Own [xb] w wr) (hge : ∀ g, (Value.slice oa n oc).ownBlock = some g → w.heap.size ≤ g) (hxw : xb < w.heap.size)
    (hown2 : w1.ownsRow 0 52 3 (.slice (some ⟨g, 0, none⟩) (n + 1) cap) (n + 1) (rowOf rEnc X ++ rEnc x)) (hgrow : ((wr.alloc o).drew).grownBy w1 (Value.slice oa n oc).ownBlock) (hat : (Value.slice oa n oc).ownBlock = some g ∨ g = wr.heap.size + 1) :
    RTab (w1.setCell ⟨xb, 0, none⟩ (.slice (some ⟨g, 0, none⟩) (n + 1) cap)) xb (.slice (some ⟨g, 0, none⟩) (n + 1) cap) (X ++ [x]) ∧ Own [xb] w (w1.setCell ⟨xb, 0, none⟩ (.slice (some ⟨g, 0, none⟩) (n + 1) cap)) ∧ w.heap.size ≤ g := by
  subst hn
  have e : rowOf rEnc X ++ rEnc x = rowOf rEnc (X ++ [x]) := by simp [rowOf]
  rw [e] at hown2
  have hs := hO.size
  have hgw : w.heap.size ≤ g := by
    rcases hat with h1 | h1
    · exact hge g h1
    · omega
  have hO1 : Own [xb] w w1 := ((hO.alloc o).drew).trans' (grown_row' hgrow) (by
    intro z hz
    right
    exact hge z (by simpa using hz))
  have hrow1 : w1.heap[xb]? = some (.cells #[.slice oa X.length oc] 46 (0, 0)) := by
    rw [hgrow.block xb (by simp; omega) (by have := h.ne; exact fun hc => this hc.symm)]
    show (wr.alloc o).heap[xb]? = _
    rw [Below.heap_alloc _ _ _ (lt_of_heap h.row)]
    exact h.row
  have hO2 : Own [xb] w1 (w1.setCell ⟨xb, 0, none⟩ (.slice (some ⟨g, 0, none⟩) (X.length + 1) cap)) := (Own.refl _ _).setCell (by simp) _
  refine ⟨⟨heap_setCell_same _ _ _ _ _ _ hrow1, ?_, ?_⟩, hO1.trans hO2, hgw⟩
  · have := rOwns_own hown2 hO2 (fun b hb => by simp [Value.ownBlock] at hb; subst hb; simp; omega)
    simpa using this
  · simp [Value.ownBlock]
    omega

def RSetPost (xb : Nat) (r : Int × ATab) (w : World) (e : Ending) (w' : World) : Prop :=
  e = .returned (.int .i64 r.1) ∧ ∃ v', RTab w' xb v' r.2 ∧ Own [xb] w w' ∧ (r.1 = 0 → ∀ g, v'.ownBlock = some g → w.heap.size ≤ g)
set_option maxRecDepth 100000 in
set_option maxHeartbeats 8000000 in
theorem rset_zero (xb : Nat) (v : Value) (R : ATab) (ow : ByteArray) (a : Option Addr) (L : List Itm) (c : Nat) (w : World) (h : RTab w xb v R) (hl : R.length ≤ 1000000) (hA : ItemsAt w a L) (hax : 0 < L.length → ∀ q, a = some q → q.block ≠ xb) (hz : rTry R ow L = 0) :
    Calls Try.prog 15 #[.pointer (some ⟨xb, 0, none⟩), .string ow, .slice a L.length c] w (RSetPost xb (0, aOthers R ow ++ rWant ow L) w) := by
  obtain ⟨i0, hi, hz0, hz1, hz2⟩ := info_parts rowInfo
  have T := rtry_any xb v R ow a L c w h hl hA
  rw [hz] at T
  have hlL := hA.1
  have hcnt := rGo_zero R ow L [] _ hz
  have hxw := lt_of_heap h.row
  replace T := Lib.hid T
  replace h := Lib.hid h
  replace hA := Lib.hid hA
  replace hax := Lib.hid hax
  clear hz
  go_enter Try.func15, Try.ntmps15
  go_wp2_with fail
  refine T.out.mono ?_
  rintro e w1 ⟨rfl, hO1⟩
  have D := rdrop_any xb v R ow w1 (h.out.nil' hO1) hl
  unfold RDropPost at D
  replace D := Lib.hid D
  replace hO1 := Lib.hid hO1
  clear T
  go_wp2_with fail
  refine D.out.mono ?_
  rintro e w2 ⟨rfl, v2, hR2, hO2, hge2⟩
  have hO3 : Own [xb] w w2 := hO1.out.nil.trans hO2
  have hge3 : ∀ g, v2.ownBlock = some g → w.heap.size ≤ g := fun g hg => Nat.le_trans hO1.out.size (hge2 g hg)
  replace hR2 := Lib.hid hR2
  replace hO3 := Lib.hid hO3
  replace hge3 := Lib.hid hge3
  clear D hO2 hge2 hO1
  generalize hAo : aOthers R ow = Ao at *
  replace hAo := Lib.hid hAo
  go_wp2_with fail
  go_loopg [8] L.length (fun g s8 wr => ∃ (i : Nat) (vv : Value), i ≤ L.length ∧ g = L.length - i ∧ s8 = .int .i64 i ∧ Aside (RTab wr xb vv (Ao ++ rWant ow (L.take i)) ∧ Own [xb] w wr ∧ ∀ g, vv.ownBlock = some g → w.heap.size ≤ g))
  case atStart => exact ⟨0, v2, by omega, by omega, rfl, by simpa [rWant] using hR2.out, hO3.out, hge3.out⟩
  case round =>
    obtain ⟨i, vv, hil, rfl, rfl, hR, hO, hge⟩ := hrel
    clear hR2 hO3 hge3
    by_cases hlt : i < L.length
    · obtain ⟨b, o, rfl, hb, _, hc⟩ := hA.out.item hlt
      have hbx : b ≠ xb := hax.out (by omega) _ rfl
      have hw := rWant_snoc hlt ow
      have hwl := rWant_le L i ow
      generalize itAt L i = x at hc hw
      have hc2 := At8.own hc hO hb (by simpa using hbx)
      obtain ⟨nm, hs, al, ty, nu, vk, vn, vs⟩ := x
      obtain ⟨d0, d1, d2, d3, d4, d5, d6, d7⟩ := At8.all hc2
      simp only at hw
      generalize hX : Ao ++ rWant ow (L.take i) = X at hR
      have hXl : X.length ≤ 64 := by rw [← hX]; simp; omega
      have hX2 : Ao ++ rWant ow (L.take (i + 1)) = X ++ if hs = true then [(al, (ow, nm))] else [] := by rw [hw, ← List.append_assoc, hX]
      obtain ⟨oa, oc, rfl, _⟩ := hR.form
      have c1 : wr.cell? ⟨xb, 0, none⟩ = some (.slice oa X.length oc) := cell_of_row wr xb 0 _ _ _ hR.row
      have q0 : (0 : Int) ≤ i := by omega
      have q1 : (i : Int) < L.length := by omega
      obtain ⟨n, hn⟩ : ∃ n, n = X.length := ⟨_, rfl⟩
      rw [← hn] at hR c1 hXl hge
      replace hn := Lib.hid hn
      replace hX2 := Lib.hid hX2
      have hszw := hO.size
      replace hO := Lib.hid hO
      replace hge := Lib.hid hge
      clear hc hc2 hw hX hwl d3 d4 d5 d6 d7
      cases hs
      · replace hR := Lib.hid hR
        go_wp2_with fail
        go_roundg (L.length - (i + 1))
        case measure => omega
        case rel => exact ⟨i + 1, _, by omega, rfl, by go_num, by rw [hX2.out]; simpa using hR.out, hO.out, hge.out⟩
      · have hxr := lt_of_heap hR.row
        obtain ⟨H, hH⟩ : ∃ H, wr.heap.size = H := ⟨_, rfl⟩
        have hown1 : ((wr.alloc (.cells #[.int .u64 al, .string ow, .string nm] 52)).drew).ownsRow 0 52 3 (.slice oa n oc) n (rowOf rEnc X) := by
          have := hR.own
          rw [← hn.out] at this
          exact (this.alloc _).drew
        have hnw : ((wr.alloc (.cells #[.int .u64 al, .string ow, .string nm] 52)).drew).heap[H]? = some (.cells #[.int .u64 al, .string ow, .string nm] 52 (0, 0)) := by rw [← hH]; exact heap_alloc_new _ _
        have hnews := World.news_of_block hnw
        have hK1 : ∀ w1, ((wr.alloc (.cells #[.int .u64 al, .string ow, .string nm] 52)).drew).grownBy w1 (Value.slice oa n oc).ownBlock → w1.heap[xb]? = some (.cells #[.slice oa n oc] 46 (0, 0)) := fun w1 hg => by
          rw [hg.block xb (by simp; omega) (by have := hR.ne; exact fun hc => this hc.symm)]
          show (wr.alloc _).heap[xb]? = _
          rw [Below.heap_alloc _ _ _ hxr]
          exact hR.row
        have hone := Lib.hid (row_one (al, ow, nm))
        unfold rEnc at hone
        have hsw : wr.heap.size = H := hH
        have c1a : (wr.alloc (.cells #[.int .u64 al, .string ow, .string nm] 52)).cell? ⟨xb, 0, none⟩ = some (.slice oa n oc) := (World.cell?_alloc_lt _ _ _ hxr).trans c1
        replace hH := Lib.hid hH
        replace hown1 := Lib.hid hown1
        replace hnews := Lib.hid hnews
        replace hK1 := Lib.hid hK1
        replace hR := Lib.hid hR
        clear hnw
        go_wp2_with fail
        go_region_law ((go_loud (refine step_append_lies _ (by rfl) (.tmp 34) (.tmp 47) 44 (by rfl) 0 52 i0 _ 3 40 Try.underlying44 hi hz0 hz1 hz2 rfl (by omega) (.slice oa n oc) n (rowOf rEnc X) (by rfl) hown1.out ⟨H, 0, none⟩ 1 1 [.int .u64 al, .string ow, .string nm] (by rfl) rfl hnews.out hone.out (by omega) (by unfold maxLen; omega) (by omega) (Nat.zero_le _) (H + 1) (by simp [hH.out]) ?_); intro g cap w1 hown2 hgrow hat hlt2; have c2 : w1.cell? ⟨xb, 0, none⟩ = some (.slice oa n oc) := cell_of_row w1 xb 0 _ _ _ (hK1.out w1 hgrow); have f2 : w1.frozen? ⟨xb, 0, none⟩ = false := frozen_of_row w1 xb _ _ _ (hK1.out w1 hgrow)))
        all_goals
          have E := rpush_end (x := (al, ow, nm)) hR.out hn.out hO.out hge.out hxw hown2 hgrow (by rw [hH.out]; exact hat)
          replace E := Lib.hid E
          clear hown2 hgrow hat c2 f2
          go_wp2_with fail
          go_roundg (L.length - (i + 1))
          case measure => omega
          case rel => exact ⟨i + 1, _, by omega, rfl, by go_num, by rw [hX2.out]; exact E.out.1, E.out.2.1, fun q hq => by have := E.out.2.2; simp [Value.ownBlock] at hq; omega⟩
    · obtain rfl : i = L.length := by omega
      rw [List.take_length] at hR
      replace hR := Lib.hid hR
      replace hO := Lib.hid hO
      replace hge := Lib.hid hge
      go_wp2_with fail
      go_ret
      exact ⟨rfl, vv, hR.out, hO.out, fun _ => hge.out⟩
theorem rset_any (xb : Nat) (v : Value) (R : ATab) (ow : ByteArray) (a : Option Addr) (L : List Itm) (c : Nat) (w : World) (h : RTab w xb v R) (hl : R.length ≤ 1000000) (hA : ItemsAt w a L) (hax : 0 < L.length → ∀ q, a = some q → q.block ≠ xb) :
    Calls Try.prog 15 #[.pointer (some ⟨xb, 0, none⟩), .string ow, .slice a L.length c] w (RSetPost xb (rSet R ow L) w) := by
  unfold rSet
  by_cases hz : rTry R ow L = 0
  · rw [if_pos hz]
    exact rset_zero xb v R ow a L c w h hl hA hax hz
  · rw [if_neg hz]
    have T := rtry_any xb v R ow a L c w h hl hA
    have hz1 : ((rTry R ow L : Int) != 0) = true := by simpa using hz
    generalize rTry R ow L = r at T hz hz1
    replace T := Lib.hid T
    replace h := Lib.hid h
    replace hz := Lib.hid hz
    go_enter Try.func15, Try.ntmps15
    go_wp2_with fail
    refine T.out.mono ?_
    rintro e w1 ⟨rfl, hO1⟩
    replace hO1 := Lib.hid hO1
    go_wp2_with fail
    go_ret
    exact ⟨rfl, v, h.out.nil' hO1.out, hO1.out.nil, fun e => absurd e hz.out⟩
end Go.Proofs.Ytjbmmgclkhigiaa

namespace Go.Proofs.Ytjbmmgclkhigiaa
open Go.RowKit

/-! ### plain: the two tables of one owner are one -/
theorem rWant_add (ow : ByteArray) (pre : List Itm) (x : Itm) : rWant ow (pre ++ [x]) = if x.has then rWant ow pre ++ [(x.al, (ow, x.name))] else rWant ow pre := by
  unfold rWant
  rw [List.filter_append, List.map_append]
  cases hx : x.has <;> simp [hx]
theorem rDup_get (ow : ByteArray) (pre : List Itm) (x : Itm) : rDup pre x = (aGet (rWant ow pre) x.al).isSome := by
  cases hg : aGet (rWant ow pre) x.al with
  | none =>
    rw [aGet_none_iff] at hg
    show rDup pre x = false
    unfold rDup
    rw [List.any_eq_false]
    intro y hy
    cases hh : y.has
    · simp
    · have := hg (y.al, (ow, y.name)) (by unfold rWant; exact List.mem_map.2 ⟨y, List.mem_filter.2 ⟨hy, hh⟩, rfl⟩)
      simpa using this
  | some s =>
    have hne : ¬ ∀ p ∈ rWant ow pre, p.1 ≠ x.al := by
      rw [← aGet_none_iff, hg]
      simp
    unfold rDup
    simp only [Option.isSome_some]
    rw [List.any_eq_true]
    apply Classical.byContradiction
    intro hc
    refine hne fun p hp e => hc ?_
    unfold rWant at hp
    obtain ⟨y, hy, rfl⟩ := List.mem_map.1 hp
    obtain ⟨hy1, hy2⟩ := List.mem_filter.1 hy
    exact ⟨y, hy1, by simp [hy2]; exact e⟩
theorem fresh_go (ow : ByteArray) : ∀ (L pre : List Itm) (n : Nat), n = (rWant ow pre).length →
    (aFresh ow L (rWant ow pre) = none ∧ rGo [] ow pre L n = 16) ∨ (aFresh ow L (rWant ow pre) = some (rWant ow (pre ++ L)) ∧ rGo [] ow pre L n = if 64 < (rWant ow (pre ++ L)).length then 6 else 0)
  | [], pre, n, h => by
    right
    subst h
    simp [aFresh, rGo]
  | x :: r, pre, n, h => by
    rw [rGo_cons]
    unfold aFresh
    have hadd := rWant_add ow pre x
    have hap : pre ++ x :: r = (pre ++ [x]) ++ r := by simp
    cases hh : x.has
    · rw [hh] at hadd
      simp only [Bool.false_eq_true, if_false] at hadd ⊢
      rw [hap, ← hadd]
      exact fresh_go ow r (pre ++ [x]) n (by rw [hadd]; exact h)
    · rw [hh] at hadd
      simp only [if_true] at hadd ⊢
      have hd := rDup_get ow pre x
      cases hg : aGet (rWant ow pre) x.al with
      | some s =>
        left
        rw [hg] at hd
        simp at hd
        simp [hd]
      | none =>
        rw [hg] at hd
        simp at hd
        have hcl : rClash [] ow x = false := rfl
        simp only [hd, hcl, Bool.false_eq_true, if_false]
        rw [hap, ← hadd]
        exact fresh_go ow r (pre ++ [x]) (n + 1) (by rw [hadd]; simp [h])
theorem set_same (ow : ByteArray) (L : List Itm) : (aSet [] ow L).2 = (rSet [] ow L).2 ∧ ((aSet [] ow L).2 = [] ∨ (aSet [] ow L).2 = rWant ow L) := by
  have h := fresh_go ow L [] 0 rfl
  have e0 : rWant ow [] = [] := rfl
  rw [e0] at h
  simp only [List.nil_append] at h
  have er : rTry [] ow L = rGo [] ow [] L 0 := rfl
  unfold aSet rSet aMay
  rw [er]
  rcases h with ⟨h1, h2⟩ | ⟨h1, h2⟩
  · rw [h1, h2]
    simp
  · rw [h1, h2]
    have hc : aClash [] ow (rWant ow L) = false := rfl
    have ho : aOthers [] ow = [] := rfl
    simp only [hc, ho, Bool.false_eq_true, if_false, List.length_nil, Nat.zero_add, List.nil_append]
    by_cases h64 : 64 < (rWant ow L).length
    · simp [h64]
    · simp [h64]
theorem find_same (ow o : ByteArray) (L : List Itm) (a : Int) : aFind (rWant ow L) o a = rFind (rWant ow L) o a := by
  unfold aFind rFind aGet rWant
  induction L.filter (·.has) with
  | nil => rfl
  | cons x r ih =>
    simp only [List.map_cons, List.find?_cons]
    unfold rHit at ih ⊢
    simp only at ih ⊢
    cases ha : (x.al == a)
    · simp only [Bool.and_false]
      exact ih
    · simp only [Bool.and_true, Option.map_some]
      cases ho : (ow == o)
      · simp only [Bool.false_eq_true, if_false]
        have : ∀ q : List Itm, (q.map fun x => (x.al, (ow, x.name))).find? (fun p => p.2.1 == o && p.1 == a) = none := by
          intro q
          rw [List.find?_eq_none]
          intro p hp
          obtain ⟨y, _, rfl⟩ := List.mem_map.1 hp
          simp [ho]
        rw [this]
        rfl
      · rfl
theorem tab_same (ow o : ByteArray) (L : List Itm) : aFind (aSet [] ow L).2 o = rFind (rSet [] ow L).2 o := by
  obtain ⟨h1, h2⟩ := set_same ow L
  rw [← h1]
  funext a
  rcases h2 with h2 | h2
  · rw [h2]; rfl
  · rw [h2]; exact find_same ow o L a
end Go.Proofs.Ytjbmmgclkhigiaa

set_option linter.unusedSimpArgs false
namespace Go.Proofs.Ytjbmmgclkhigiaa
open Go.RowKit

theorem go_like (R : ATab) (ow : ByteArray) : ∀ (L pre : List Itm) (n : Nat), n = (aOthers R ow).length + (rWant ow pre).length →
    (aFresh ow L (rWant ow pre) = none ∧ rGo R ow pre L n = 16) ∨
    (aFresh ow L (rWant ow pre) = some (rWant ow (pre ++ L)) ∧ rGo R ow pre L n = if (L.any fun x => x.has && rClash R ow x) = true then 16 else if 64 < (aOthers R ow).length + (rWant ow (pre ++ L)).length then 6 else 0)
  | [], pre, n, h => by
    right
    subst h
    simp [aFresh, rGo]
  | x :: r, pre, n, h => by
    rw [rGo_cons]
    unfold aFresh
    have hadd := rWant_add ow pre x
    have hap : pre ++ x :: r = (pre ++ [x]) ++ r := by simp
    cases hh : x.has
    · rw [hh] at hadd
      simp only [Bool.false_eq_true, if_false] at hadd
      have ih := go_like R ow r (pre ++ [x]) n (by rw [hadd]; exact h)
      rw [hadd] at ih
      rw [hap]
      simpa [hh] using ih
    · rw [hh] at hadd
      simp only [if_true] at hadd
      have hd := rDup_get ow pre x
      cases hg : aGet (rWant ow pre) x.al with
      | some s =>
        left
        rw [hg] at hd
        simp at hd
        simp [hd]
      | none =>
        rw [hg] at hd
        simp at hd
        have ih := go_like R ow r (pre ++ [x]) (n + 1) (by rw [hadd]; simp [h]; omega)
        rw [hadd] at ih
        rw [hap]
        simp only [hd, if_true, Bool.false_eq_true, if_false]
        cases hc : rClash R ow x
        · simpa [hc] using ih
        · rcases ih with ⟨h1, h2⟩ | ⟨h1, h2⟩
          · exact .inl ⟨h1, by simp⟩
          · exact .inr ⟨h1, by simp [hh, hc]⟩
theorem mem_rWant {ow : ByteArray} {L : List Itm} {p : Int × Stands} (h : p ∈ rWant ow L) : ∃ x ∈ L, x.has = true ∧ p = (x.al, (ow, x.name)) := by
  unfold rWant at h
  obtain ⟨x, hx, rfl⟩ := List.mem_map.1 h
  obtain ⟨h1, h2⟩ := List.mem_filter.1 hx
  exact ⟨x, h1, h2, rfl⟩
theorem clash_like {l R : ATab} (hp : l.Perm R) (ow : ByteArray) (L : List Itm) : aClash l ow (rWant ow L) = L.any fun x => x.has && rClash R ow x := by
  rw [Bool.eq_iff_iff]
  unfold aClash
  rw [List.any_eq_true, List.any_eq_true]
  constructor
  · rintro ⟨p, hp1, hp2⟩
    unfold aOthers at hp1
    obtain ⟨h1, h2⟩ := List.mem_filter.1 hp1
    have h3 : ¬ ∀ q ∈ rWant ow L, q.1 ≠ p.1 := by
      rw [← aGet_none_iff]
      intro h
      rw [h] at hp2
      cases hp2
    apply Classical.byContradiction
    intro hc
    refine h3 fun q hq e => hc ?_
    obtain ⟨x, hx, hh, rfl⟩ := mem_rWant hq
    refine ⟨x, hx, ?_⟩
    simp only [hh, Bool.true_and]
    unfold rClash
    rw [List.any_eq_true]
    exact ⟨p, hp.subset h1, by simp only [h2, Bool.true_and, beq_iff_eq]; exact e.symm⟩
  · rintro ⟨x, hx, hh⟩
    simp only [Bool.and_eq_true] at hh
    obtain ⟨h1, h2⟩ := hh
    unfold rClash at h2
    rw [List.any_eq_true] at h2
    obtain ⟨p, hp1, hp2⟩ := h2
    simp only [Bool.and_eq_true] at hp2
    refine ⟨p, List.mem_filter.2 ⟨hp.symm.subset hp1, hp2.1⟩, ?_⟩
    cases hg : aGet (rWant ow L) p.1 with
    | some s => rfl
    | none =>
      rw [aGet_none_iff] at hg
      exact absurd (by simpa using hp2.2 : p.1 = x.al).symm (hg (x.al, (ow, x.name)) (List.mem_map.2 ⟨x, List.mem_filter.2 ⟨hx, h1⟩, rfl⟩))
theorem others_like {l R : ATab} (hp : l.Perm R) (ow : ByteArray) : (aOthers l ow).Perm (aOthers R ow) := hp.filter _
theorem may_like {l R : ATab} (hp : l.Perm R) (ow : ByteArray) (L : List Itm) : (aMay l ow L).1 = rTry R ow L ∧ ((aMay l ow L).1 = 0 → (aMay l ow L).2 = rWant ow L) := by
  have h := go_like R ow L [] (aOthers R ow).length (by simp [rWant])
  have e0 : rWant ow [] = [] := rfl
  rw [e0] at h
  simp only [List.nil_append] at h
  have hc := clash_like hp ow L
  have hl := (others_like hp ow).length_eq
  unfold aMay rTry
  rcases h with ⟨h1, h2⟩ | ⟨h1, h2⟩
  · rw [h1, h2]; simp
  · rw [h1, h2]
    simp only [hc, hl]
    by_cases k1 : (L.any fun x => x.has && rClash R ow x) = true
    · simp [k1]
    · by_cases k2 : 64 < (aOthers R ow).length + (rWant ow L).length
      · simp [k1, k2]
      · simp [k1, k2]
theorem set_like {l R : ATab} (hp : l.Perm R) (ow : ByteArray) (L : List Itm) : (aSet l ow L).1 = (rSet R ow L).1 ∧ (aSet l ow L).2.Perm (rSet R ow L).2 := by
  obtain ⟨h1, h2⟩ := may_like hp ow L
  unfold aSet rSet
  rw [← h1]
  by_cases h0 : (aMay l ow L).1 = 0
  · rw [if_pos h0, if_pos h0, h2 h0]
    exact ⟨rfl, (others_like hp ow).append_right _⟩
  · rw [if_neg h0, if_neg h0]
    exact ⟨rfl, hp⟩
theorem find_like {l R : ATab} (hp : l.Perm R) (hn : (l.map (·.1)).Nodup) (ow : ByteArray) (a : Int) : aFind l ow a = rFind R ow a := by
  unfold aFind rFind
  cases hg : aGet l a with
  | none =>
    rw [aGet_none_iff] at hg
    have : R.find? (rHit ow a) = none := by
      rw [List.find?_eq_none]
      intro p hp1
      unfold rHit
      have := hg p (hp.symm.subset hp1)
      simp [this]
    rw [this]
    rfl
  | some s =>
    have hm := aGet_mem hg
    have hu : ∀ p ∈ R, p.1 = a → p.2 = s := fun p hp1 e => by
      have h1 := aGet_some_of l hn (hp.symm.subset hp1)
      rw [e, hg] at h1
      exact (Option.some.inj h1).symm
    simp only
    cases ho : s.1 == ow with
    | true =>
      rw [if_pos rfl]
      have : (R.find? (rHit ow a)).isSome = true := by
        rw [List.find?_isSome]
        exact ⟨(a, s), hp.subset hm, by unfold rHit; simpa using ho⟩
      obtain ⟨p, hpf⟩ := Option.isSome_iff_exists.1 this
      have h2 := List.find?_some hpf
      have h3 := List.mem_of_find?_eq_some hpf
      unfold rHit at h2
      simp only [Bool.and_eq_true, beq_iff_eq] at h2
      have e := hu p h3 h2.2
      rw [hpf]
      simp only
      rw [e]
    | false =>
      rw [if_neg (by simp)]
      have : R.find? (rHit ow a) = none := by
        rw [List.find?_eq_none]
        intro p hp1 h2
        unfold rHit at h2
        simp only [Bool.and_eq_true] at h2
        have := hu p hp1 (by simpa using h2.2)
        rw [this, ho] at h2
        cases h2.1
      rw [this]
      rfl
end Go.Proofs.Ytjbmmgclkhigiaa
