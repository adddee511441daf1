/- The law's own little run; plain facts on the store; a []api.Msg that came in. -/
import Derived.Test.YthepdibnnnednaaDoorRetain
import Derived.Test.YthepdibnnnednaaDoorFlat
import Derived.SizedLaws
namespace Go.Proofs.YthepdibnnnednaaDoor
open Go.RowKit Go.ChangeShapes

/-! ### plain -/
theorem aGet_put_same {α : Type} (l : List (ByteArray × α)) (k : ByteArray) (v : α) : aGet (aPut l k v) k = some v := by
  induction l with
  | nil => simp [aPut, aGet]
  | cons p r ih =>
    unfold aPut
    by_cases hk : p.1 == k
    · simp [hk, aGet]
    · simp only [hk, Bool.false_eq_true, if_false]
      simp only [aGet, List.find?_cons, hk] at ih ⊢
      exact ih
theorem aGet_put_other {α : Type} (l : List (ByteArray × α)) {k j : ByteArray} (h : k ≠ j) (v : α) : aGet (aPut l k v) j = aGet l j := by
  have hkj : (k == j) = false := by simpa using h
  induction l with
  | nil => simp [aPut, aGet, hkj]
  | cons p r ih =>
    unfold aPut
    by_cases hk : p.1 == k
    · have hp : p.1 = k := by simpa using hk
      have hpj : (p.1 == j) = false := by rw [hp]; exact hkj
      simp only [hk, if_true]
      simp [aGet, hkj, hpj]
    · simp only [hk, Bool.false_eq_true, if_false]
      simp only [aGet, List.find?_cons] at ih ⊢
      cases hp : (p.1 == j)
      · exact ih
      · rfl
theorem aGet_del_same {α : Type} (l : List (ByteArray × α)) (k : ByteArray) : aGet (aDel l k) k = none := by
  rw [aGet_none_iff]
  intro p hp
  have := (List.mem_filter.1 hp).2
  simpa using this
theorem aGet_del_other {α : Type} (l : List (ByteArray × α)) {k j : ByteArray} (h : k ≠ j) : aGet (aDel l k) j = aGet l j := by
  induction l with
  | nil => rfl
  | cons p r ih =>
    unfold aDel at ih ⊢
    by_cases hk : p.1 == k
    · have hp : p.1 = k := by simpa using hk
      have hpj : (p.1 == j) = false := by rw [hp]; simpa using h
      simp only [List.filter_cons, hk, Bool.not_true, Bool.false_eq_true, if_false]
      rw [ih]
      simp [aGet, hpj]
    · simp only [List.filter_cons, hk, Bool.not_false, if_true]
      simp only [aGet, List.find?_cons] at ih ⊢
      cases hp : (p.1 == j)
      · exact ih
      · rfl

/-! ### the little run -/
def msA : Ms := ⟨⟨#[97]⟩, ⟨#[120]⟩, 0, false⟩
def msB : Ms := ⟨⟨#[97]⟩, ByteArray.empty, 0, false⟩
theorem name_a : lvName ⟨#[97]⟩ = true := by kernel_rfl
theorem keep_a : rKeep [] msA = ((false, 0), [(⟨#[97]⟩, msA.stays)]) := by
  unfold rKeep
  rw [show msA.top = ⟨#[97]⟩ from rfl, name_a]
  kernel_rfl
theorem keep_b : rKeep [(⟨#[97]⟩, msA.stays)] msB = ((true, 0), []) := by
  unfold rKeep
  rw [show msB.top = ⟨#[97]⟩ from rfl, name_a]
  kernel_rfl
theorem get_a : rGet [(⟨#[97]⟩, msA.stays)] ⟨#[97]⟩ = (msA.stays, true) := rfl
theorem keep_eq {b m : Nat} {l : Msgs} {x : Ms} {w : World} (h : Store w b m l) (hT : Tabs w) {r : Bool × Int} {l' : Msgs} (e : rKeep l x = (r, l')) :
    Calls Tryd.prog 9 #[.pointer (some ⟨b, 0, none⟩), .agg #[.string x.top, .string x.text, .int .i64 x.qos, .bool x.ret]] w fun e w' => e = .returned (.tuple #[.bool r.1, .int .i64 r.2]) ∧ Store w' b m l' ∧ Own [m] w w' := by
  have := keep_any b m l x w h hT
  unfold KeepPost at this
  rw [e] at this
  exact this
theorem get_eq {b m : Nat} {l : Msgs} {t : ByteArray} {w : World} (h : Store w b m l) {y : Ms} {is : Bool} (e : rGet l t = (y, is)) :
    Calls Tryd.prog 10 #[.pointer (some ⟨b, 0, none⟩), .string t] w fun e w' => e = .returned (.tuple #[.agg #[.string y.top, .string y.text, .int .i64 y.qos, .bool y.ret], .bool is]) ∧ Own [] w w' := by
  have := get_any b m l t w h
  rw [e] at this
  exact this

set_option maxRecDepth 100000 in
set_option maxHeartbeats 4000000 in
theorem awake_any (w : World) (hT : Tabs w) : Calls Tryd.prog 11 #[] w fun e w' => e = .returned (.bool true) ∧ Own [] w w' := by
  replace hT := Lib.hid hT
  go_enter Tryd.func11, Tryd.ntmps11
  go_wp2_with fail
  refine (new_any _).mono ?_
  rintro e w1 ⟨b, m, rfl, hS, hb, hm, hO⟩
  have hT1 := hT.out.own hO (by simp)
  have K1 := Lib.hid (keep_eq hS hT1 keep_a)
  simp only [msA] at K1
  replace hT1 := Lib.hid hT1
  replace hO := Lib.hid hO
  clear hS
  go_wp2_with fail
  refine K1.out.mono ?_
  rintro e w2 ⟨rfl, hS2, hO2⟩
  have hOa := hO.out.trans' hO2 (fun z hz => by simp at hz; omega)
  have hT2 := hT.out.own hOa (by simp)
  have G := Lib.hid (get_eq hS2 get_a)
  simp only [msA, Ms.stays] at G
  replace hT2 := Lib.hid hT2
  replace hS2 := Lib.hid hS2
  replace hOa := Lib.hid hOa
  clear hO2 K1
  go_wp2_with fail
  refine G.out.mono ?_
  rintro e w3 ⟨rfl, hO3⟩
  have hO4 : Own [] w3 (w3.alloc (.cells #[.string ⟨#[97]⟩, .string ⟨#[120]⟩, .int .i64 0, .bool true] 26)) := (Own.refl _ _).alloc _
  have hO5 := hO3.trans hO4
  have hS4 := hS2.out.own hO5 (by simp) (by simp)
  have hT4 := hT2.out.own hO5 (by simp)
  have K2 := Lib.hid (keep_eq hS4 hT4 keep_b)
  simp only [msB] at K2
  have hblk : w3.heap.size < (w3.alloc (.cells #[.string ⟨#[97]⟩, .string ⟨#[120]⟩, .int .i64 0, .bool true] 26)).heap.size := by simp
  have hrow : (w3.alloc (.cells #[.string ⟨#[97]⟩, .string ⟨#[120]⟩, .int .i64 0, .bool true] 26)).heap[w3.heap.size]? = some (.cells #[.string ⟨#[97]⟩, .string ⟨#[120]⟩, .int .i64 0, .bool true] 26 (0, 0)) := heap_alloc_new _ _
  have hmz := hS2.out.lt.2
  have hmz3 : m ≠ w3.heap.size := by have := hO3.size; omega
  have hOb := hOa.out.trans hO5
  replace hrow := Lib.hid hrow
  replace hOb := Lib.hid hOb
  clear hO3 hO4 hO5 hS4 hT4 hblk
  go_wp2_with fail
  refine K2.out.mono ?_
  rintro e w5 ⟨rfl, hS5, hO6⟩
  have hc3 : w5.cell? ⟨w3.heap.size, 3, none⟩ = some (.bool true) := cell_of_row w5 _ 3 _ _ _ (hO6.heap hrow.out (by simpa using hmz3.symm))
  have L := Lib.hid (len_any b m [] w5 hS5)
  have hOc := hOb.out.trans' hO6 (fun z hz => by simp at hz; omega)
  replace hOc := Lib.hid hOc
  clear hO6 hS5
  go_wp2_with fail
  refine L.out.mono ?_
  rintro e w6 ⟨rfl, rfl⟩
  go_wp2_with fail
  go_ret
  exact ⟨rfl, hOc.out⟩

/-! ### a []api.Msg -/
def msgKinds : List CK := [.str, .str, .int .i64, .bool]
def Ms.wf (x : Ms) : Prop := -9223372036854775808 ≤ x.qos ∧ x.qos ≤ 9223372036854775807
def MsgRow (w : World) (a : Option Addr) (len : Nat) (ms : Nat → Ms) : Prop :=
  len ≤ maxLen ∧ (0 < len → ∃ b o, a = some ⟨b, o, none⟩ ∧ b < w.heap.size ∧ ∀ i, i < len → ∀ j v, (ms i).cells[j]? = some v → w.cell? ⟨b, o + i * 4 + j, none⟩ = some v)
theorem MsgRow.keep {w w' : World} {a : Option Addr} {len : Nat} {ms : Nat → Ms} (h : MsgRow w a len ms) (hc : ∀ p : Addr, p.block < w.heap.size → w'.cell? p = w.cell? p) (hs : w.heap.size ≤ w'.heap.size) : MsgRow w' a len ms := by
  obtain ⟨h1, h2⟩ := h
  refine ⟨h1, fun hl => ?_⟩
  obtain ⟨b, o, rfl, hb, hx⟩ := h2 hl
  exact ⟨b, o, rfl, by omega, fun i hi j v hj => (hc ⟨b, o + i * 4 + j, none⟩ hb).trans (hx i hi j v hj)⟩
theorem MsgRow.below {w w' : World} {a : Option Addr} {len : Nat} {ms : Nat → Ms} (h : MsgRow w a len ms) (ho : Below w.heap.size w w') : MsgRow w' a len ms :=
  h.keep (fun _ hp => ho.cell hp) ho.size
theorem msgRow_nil (w : World) (a : Option Addr) (ms : Nat → Ms) : MsgRow w a 0 ms := ⟨Nat.zero_le _, fun h => by omega⟩
theorem msg_flat : flat Tryd.prog 3 26 = some msgKinds := by kernel_rfl
theorem msg_cells : Tryd.prog.cellsOf 26 = 4 := by kernel_rfl
theorem msg_bytes : Tryd.prog.bytesOf 26 = 48 := by kernel_rfl
theorem fits_msg {cs : List Value} (h : Fits msgKinds cs) : ∃ x : Ms, cs = x.cells := by
  obtain ⟨hl, hf⟩ := h
  match cs, hl with
  | [v0, v1, v2, v3], _ =>
    obtain ⟨s0, rfl, _⟩ := hf 0 _ _ rfl rfl
    obtain ⟨s1, rfl, _⟩ := hf 1 _ _ rfl rfl
    obtain ⟨n2, rfl, _⟩ := hf 2 _ _ rfl rfl
    obtain ⟨b3, rfl⟩ := hf 3 _ _ rfl rfl
    exact ⟨⟨s0, s1, n2, b3⟩, rfl⟩
theorem open_msgs {H : Type} {enc : TypeId × Value → H} {w : World} {fuel : Nat} {a0 : Option Addr} {len0 cap0 : Nat} {x : DataW H × List MemPlace} (h : DataW.trod enc Tryd.prog w 0 (fun _ => true) true fuel 22 (Value.cells (.slice a0 len0 cap0)).toList = some x) :
    ∃ ms, MsgRow w a0 len0 ms := by
  have hcm : len0 ≤ maxLen := by
    rcases Deep.open_slice Tryd.underlying22 h with ⟨hcs, _⟩ | ⟨a, len, cap, m, n, D, Pl, hcs, _, hl, hm, _⟩
    · simp [Value.cells] at hcs; omega
    · simp [Value.cells] at hcs; omega
  rcases open_flat Tryd.underlying22 3 4 msg_flat msg_cells (by omega) h with ⟨hcs, _⟩ | ⟨a, len, cap, m, elems, rest, ps, C, hcs, _, hel, hm, hlm, hx⟩
  · simp [Value.cells] at hcs
    obtain ⟨rfl, rfl, rfl⟩ := hcs
    exact ⟨fun _ => Ms.zero, msgRow_nil _ _ _⟩
  · simp [Value.cells] at hcs
    obtain ⟨rfl, rfl, rfl⟩ := hcs
    by_cases hl : 0 < len0
    · obtain ⟨b, o, rfl, hbl, hc⟩ := hx hl
      obtain ⟨ms, hms⟩ := Deep.choose_lt (α := Ms) (n := len0) (p := fun i x => C i = x.cells) (fun i hi => fits_msg (hc i hi).1)
      exact ⟨ms, hcm, fun _ => ⟨b, o, rfl, hbl, fun i hi j v hv => (hc i hi).2 j v (by rw [hms i hi]; exact hv)⟩⟩
    · obtain rfl : len0 = 0 := by omega
      exact ⟨fun _ => Ms.zero, msgRow_nil _ _ _⟩
end Go.Proofs.YthepdibnnnednaaDoor
