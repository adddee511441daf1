/- Items and metrics: as lists, and as they lie in memory. -/
import Derived.Test.YtjbmmgclkhigiaaRows
import Derived.Test.YtjbmmgclkhigiaaFlat
import Derived.Test.YtjbmmgclkhigiaaRow
import Derived.Test.YtjbmmgclkhigiaaItm
import Derived.OpenShut
namespace Go.Proofs.Ytjbmmgclkhigiaa
open Go.RowKit Go.ChangeShapes

/-- A metric as it lies in memory: the item's fields, the others. -/
structure Met where
  name : ByteArray
  has : Bool
  al : Int
  time : Int
  ty : Int
  hist : Bool
  trans : Bool
  null : Bool
  s1 : Option Addr × Nat × Nat
  s2 : Option Addr × Nat × Nat
  vk : Int
  vn : Int
  vs : ByteArray
  s3 : Option Addr × Nat × Nat
  s4 : Option Addr × Nat × Nat
def slOf (s : Option Addr × Nat × Nat) : Value := .slice s.1 s.2.1 s.2.2
def Met.cells (x : Met) : List Value := [.string x.name, .bool x.has, .int .u64 x.al, .int .u64 x.time, .int .u32 x.ty, .bool x.hist, .bool x.trans, .bool x.null, .slice x.s1.1 x.s1.2.1 x.s1.2.2, .slice x.s2.1 x.s2.2.1 x.s2.2.2, .int .i64 x.vk, .int .u64 x.vn, .string x.vs, .slice x.s3.1 x.s3.2.1 x.s3.2.2, .slice x.s4.1 x.s4.2.1 x.s4.2.2]
def Met.wf (x : Met) : Prop := 0 ≤ x.al ∧ x.al ≤ 18446744073709551615 ∧ 0 ≤ x.ty ∧ x.ty ≤ 4294967295 ∧ -9223372036854775808 ≤ x.vk ∧ x.vk ≤ 9223372036854775807 ∧ 0 ≤ x.vn ∧ x.vn ≤ 18446744073709551615
def Met.val (x : Met) : Value := .agg x.cells.toArray
def Met.zero : Met := ⟨ByteArray.empty, false, 0, 0, 0, false, false, false, (none, 0, 0), (none, 0, 0), 0, 0, ByteArray.empty, (none, 0, 0), (none, 0, 0)⟩
instance : Inhabited Met := ⟨Met.zero⟩
theorem Met.cells_len (x : Met) : x.cells.length = 15 := rfl

/-- A slice of rows of k cells each: what it holds. -/
def RowsAt {α : Type} (enc : α → List Value) (k : Nat) (good : α → Prop) (w : World) (a : Option Addr) (L : List α) : Prop :=
  L.length ≤ 140737488351232 ∧ (0 < L.length → ∃ b o, a = some ⟨b, o, none⟩ ∧ b < w.heap.size ∧ ∀ i x, L[i]? = some x → good x ∧ ∀ j v, (enc x)[j]? = some v → w.cell? ⟨b, o + i * k + j, none⟩ = some v)
section
variable {α : Type} {enc : α → List Value} {k : Nat} {good : α → Prop}
theorem RowsAt.own {S : List Nat} {w w' : World} {a : Option Addr} {L : List α} (h : RowsAt enc k good w a L) (ho : Own S w w') (hS : ∀ b, a.map (·.block) = some b → b ∉ S) : RowsAt enc k good w' a L := by
  obtain ⟨h1, h2⟩ := h
  refine ⟨h1, fun hl => ?_⟩
  obtain ⟨b, o, rfl, hb, hx⟩ := h2 hl
  exact ⟨b, o, rfl, Nat.lt_of_lt_of_le hb ho.size, fun i x hi => ⟨(hx i x hi).1, fun j v hj => (ho.cell (p := ⟨b, o + i * k + j, none⟩) hb (hS b rfl)).trans ((hx i x hi).2 j v hj)⟩⟩
theorem RowsAt.nil' {w w' : World} {a : Option Addr} {L : List α} (h : RowsAt enc k good w a L) (ho : Own [] w w') : RowsAt enc k good w' a L := h.own ho (by simp)
theorem RowsAt.below {w w' : World} {a : Option Addr} {L : List α} (h : RowsAt enc k good w a L) {B : Nat} (ho : Below B w w') (hB : w.heap.size ≤ B) : RowsAt enc k good w' a L := h.nil' (Own.of_below ho hB)
theorem RowsAt.all_good {w : World} {a : Option Addr} {L : List α} (h : RowsAt enc k good w a L) : ∀ x ∈ L, good x := by
  intro x hx
  obtain ⟨i, hi⟩ := List.getElem?_of_mem hx
  have hl : 0 < L.length := by
    rcases L with _ | ⟨y, r⟩
    · cases hx
    · simp
  obtain ⟨b, o, _, _, h3⟩ := h.2 hl
  exact (h3 i x hi).1
theorem RowsAt.empty (w : World) (a : Option Addr) : RowsAt enc k good w a [] := ⟨by simp, fun h => by simp at h⟩
/-- A row of the call's own. -/
theorem RowsAt.of_row {T : TypeId} {w : World} {g cap : Nat} {L : List α} (h : Row T enc k w g cap L) (hk : ∀ x, (enc x).length = k) (hl : L.length ≤ 140737488351232) (hg : ∀ x ∈ L, good x) : RowsAt enc k good w (some ⟨g, 0, none⟩) L := by
  refine ⟨hl, fun _ => ⟨g, 0, rfl, h.lt, fun i x hi => ⟨hg x (List.mem_of_getElem? hi), fun j v hj => ?_⟩⟩⟩
  have := h.cell hk hi hj
  simpa using this
theorem RowsAt.of_owns {T : TypeId} {w : World} {a : Option Addr} {n cap : Nat} {L : List α} (h : w.ownsRow 0 T k (.slice a n cap) n (rowOf enc L)) (hn : n = L.length) (hk : ∀ x, (enc x).length = k) (hl : L.length ≤ 140737488351232) (hg : ∀ x ∈ L, good x) : RowsAt enc k good w a L := by
  by_cases h0 : L.length = 0
  · rw [List.eq_nil_of_length_eq_zero h0]
    exact RowsAt.empty _ _
  · by_cases hv : (Value.slice a n cap) = .slice none 0 0
    · cases hv
      omega
    · obtain ⟨g, cap', he, hR⟩ := owned_row h hn hv
      cases he
      exact RowsAt.of_row hR hk hl hg
end
abbrev ItemsAt := RowsAt Itm.cells 8 Itm.wf
abbrev MetsAt := RowsAt Met.cells 15 Met.wf

/-! ### as they come in -/
def itemKinds : List CK := [.str, .bool, .int .u64, .int .u32, .bool, .int .i64, .int .u64, .str]
def metKinds : List CK := [.str, .bool, .int .u64, .int .u64, .int .u32, .bool, .bool, .bool, .sl, .sl, .int .i64, .int .u64, .str, .sl, .sl]
theorem item_flat : flat Try.prog 3 33 = some itemKinds := by kernel_rfl
theorem item_cells : Try.prog.cellsOf 33 = 8 := by kernel_rfl
theorem item_bytes : Try.prog.bytesOf 33 = 72 := by kernel_rfl
theorem fits_item {cs : List Value} (h : Fits itemKinds cs) : ∃ x : Itm, x.wf ∧ cs = x.cells := by
  obtain ⟨hl, hf⟩ := h
  match cs, hl with
  | [v0, v1, v2, v3, v4, v5, v6, v7], _ =>
    obtain ⟨s0, rfl, _⟩ := hf 0 _ _ rfl rfl
    obtain ⟨b1, rfl⟩ := hf 1 _ _ rfl rfl
    obtain ⟨n2, rfl, w2⟩ := hf 2 _ _ rfl rfl
    obtain ⟨n3, rfl, w3⟩ := hf 3 _ _ rfl rfl
    obtain ⟨b4, rfl⟩ := hf 4 _ _ rfl rfl
    obtain ⟨n5, rfl, w5⟩ := hf 5 _ _ rfl rfl
    obtain ⟨n6, rfl, w6⟩ := hf 6 _ _ rfl rfl
    obtain ⟨s7, rfl, _⟩ := hf 7 _ _ rfl rfl
    obtain ⟨a1, a2⟩ := bounds_u64 w2
    obtain ⟨a3, a4⟩ := bounds_u32 w3
    obtain ⟨a5, a6⟩ := bounds_i64 w5
    obtain ⟨a7, a8⟩ := bounds_u64 w6
    exact ⟨⟨s0, b1, n2, n3, b4, n5, n6, s7⟩, ⟨a1, a2, a3, a4, a5, a6, a7, a8⟩, rfl⟩
theorem fits_met {cs : List Value} (h : Fits metKinds cs) : ∃ x : Met, x.wf ∧ cs = x.cells := by
  obtain ⟨hl, hf⟩ := h
  match cs, hl with
  | [v0, v1, v2, v3, v4, v5, v6, v7, v8, v9, v10, v11, v12, v13, v14], _ =>
    obtain ⟨s0, rfl, _⟩ := hf 0 _ _ rfl rfl
    obtain ⟨b1, rfl⟩ := hf 1 _ _ rfl rfl
    obtain ⟨n2, rfl, w2⟩ := hf 2 _ _ rfl rfl
    obtain ⟨n3, rfl, w3⟩ := hf 3 _ _ rfl rfl
    obtain ⟨n4, rfl, w4⟩ := hf 4 _ _ rfl rfl
    obtain ⟨b5, rfl⟩ := hf 5 _ _ rfl rfl
    obtain ⟨b6, rfl⟩ := hf 6 _ _ rfl rfl
    obtain ⟨b7, rfl⟩ := hf 7 _ _ rfl rfl
    obtain ⟨x8, y8, z8, rfl⟩ := hf 8 _ _ rfl rfl
    obtain ⟨x9, y9, z9, rfl⟩ := hf 9 _ _ rfl rfl
    obtain ⟨n10, rfl, w10⟩ := hf 10 _ _ rfl rfl
    obtain ⟨n11, rfl, w11⟩ := hf 11 _ _ rfl rfl
    obtain ⟨s12, rfl, _⟩ := hf 12 _ _ rfl rfl
    obtain ⟨x13, y13, z13, rfl⟩ := hf 13 _ _ rfl rfl
    obtain ⟨x14, y14, z14, rfl⟩ := hf 14 _ _ rfl rfl
    obtain ⟨a1, a2⟩ := bounds_u64 w2
    obtain ⟨a3, a4⟩ := bounds_u32 w4
    obtain ⟨a5, a6⟩ := bounds_i64 w10
    obtain ⟨a7, a8⟩ := bounds_u64 w11
    exact ⟨⟨s0, b1, n2, n3, n4, b5, b6, b7, (x8, y8, z8), (x9, y9, z9), n10, n11, s12, (x13, y13, z13), (x14, y14, z14)⟩, ⟨a1, a2, a3, a4, a5, a6, a7, a8⟩, rfl⟩
/-- A slice of rows that came in. -/
theorem open_rows {H : Type} {enc : TypeId × Value → H} {w : World} {fuel : Nat} {α : Type} [Inhabited α] {cell : α → List Value} {good : α → Prop} {t e : TypeId} {sz bytes : Nat} {ks : List CK} (ht : Try.prog.underlying t = some (.slice e)) (hk : flat Try.prog 3 e = some ks) (hs : Try.prog.cellsOf e = sz) (hpos : 0 < sz) (hb : Try.prog.bytesOf e = bytes) (hbp : 0 < bytes)
    (hfit : ∀ cs, Fits ks cs → ∃ x : α, good x ∧ cs = cell x) {a0 : Option Addr} {len0 cap0 : Nat} {x : DataW H × List MemPlace} (h : DataW.trod enc Try.prog w 0 (fun _ => true) true fuel t (Value.cells (.slice a0 len0 cap0)).toList = some x)
    {ts : List TypeId} {ds : List (DataW H)} (hsz : (DataW.weightsEach Try.prog ts ds).all (· ≤ reachBytes) = true) {j : Nat} (htj : ts[j]? = some t) (hd : ds[j]? = some x.1) :
    ∃ L : List α, len0 = L.length ∧ L.length * bytes ≤ 140737488351232 ∧ RowsAt cell sz good w a0 L := by
  rcases open_flat ht 3 sz hk hs hpos h with ⟨hcs, _⟩ | ⟨a, len, cap, m, elems, rest, ps, C, hcs, rfl, hel, hm, hlm, hx⟩
  · simp [Value.cells] at hcs
    obtain ⟨rfl, rfl, rfl⟩ := hcs
    exact ⟨[], rfl, by simp, RowsAt.empty _ _⟩
  · simp [Value.cells] at hcs
    obtain ⟨rfl, rfl, rfl⟩ := hcs
    have hbb := sized_slice hsz htj hd ht
    rw [hb] at hbb
    simp only [reachBytes] at hbb
    by_cases hl : 0 < len0
    · obtain ⟨b, o, rfl, hbl, hc⟩ := hx hl
      obtain ⟨its, hits⟩ := Deep.choose_lt (α := α) (n := len0) (p := fun i x => good x ∧ C i = cell x) (fun i hi => hfit _ (hc i hi).1)
      have hle : len0 * bytes ≤ 140737488351232 := by
        have : len0 * bytes ≤ m * bytes := Nat.mul_le_mul_right _ hlm
        rw [← hm] at this
        omega
      have hl1 : len0 ≤ len0 * bytes := Nat.le_mul_of_pos_right _ hbp
      refine ⟨(List.range len0).map its, by simp, by simpa using hle, by simp; omega, fun _ => ⟨b, o, rfl, hbl, fun i x hi => ?_⟩⟩
      have hil : i < len0 := by simpa using (List.getElem?_eq_some_iff.1 hi).1
      obtain rfl : its i = x := by simpa [hil] using hi
      exact ⟨(hits i hil).1, fun j v hv => (hc i hil).2 j v (by rw [(hits i hil).2]; exact hv)⟩
    · obtain rfl : len0 = 0 := by omega
      exact ⟨[], rfl, by simp, RowsAt.empty _ _⟩
end Go.Proofs.Ytjbmmgclkhigiaa
