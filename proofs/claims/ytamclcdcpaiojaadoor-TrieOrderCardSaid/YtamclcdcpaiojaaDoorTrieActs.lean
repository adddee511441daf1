/- Rows of acts (crierlaw19.Act), of filters, that came in; the laws' loop of Add. -/
import Derived.Test.YtamclcdcpaiojaaDoorTrieAwake
import Derived.Test.YtamclcdcpaiojaaDoorFlat
import Derived.Test.YtamclcdcpaiojaaDoorArgs
namespace Go.Proofs.YtamclcdcpaiojaaDoor
open Go.RowKit Go.ChangeShapes Go.WideShapes Go.Lib Go.Shelf Go.Sort

structure AAct where
  k : Int
  who : Int
  f : ByteArray
  q : Int
def AAct.cells (x : AAct) : List Value := [.int .i64 x.k, .int .i64 x.who, .string x.f, .int .i64 x.q]
/-- A row of something that came in: its elements. -/
def RowOf {α : Type} (cells : α → List Value) (sz : Nat) (w : World) (a : Option Addr) (len : Nat) (ms : Nat → α) : Prop :=
  len ≤ maxLen ∧ (0 < len → ∃ b o, a = some ⟨b, o, none⟩ ∧ b < w.heap.size ∧ ∀ i, i < len → ∀ j v, (cells (ms i))[j]? = some v → w.cell? ⟨b, o + i * sz + j, none⟩ = some v)
theorem RowOf.below {α : Type} {cells : α → List Value} {sz : Nat} {w w' : World} {a : Option Addr} {len : Nat} {ms : Nat → α} (h : RowOf cells sz w a len ms) (ho : Below w.heap.size w w') : RowOf cells sz w' a len ms := by
  obtain ⟨h1, h2⟩ := h
  refine ⟨h1, fun hl => ?_⟩
  obtain ⟨b, o, rfl, hb, hx⟩ := h2 hl
  have := ho.size
  exact ⟨b, o, rfl, by omega, fun i hi j v hj => (ho.cell (p := ⟨b, o + i * sz + j, none⟩) hb).trans (hx i hi j v hj)⟩
def actKinds : List CK := [.int .i64, .int .i64, .str, .int .i64]
theorem act_flat : flat Tryd.prog 4 40 = some actKinds := by kernel_rfl
theorem act_cells : Tryd.prog.cellsOf 40 = 4 := by kernel_rfl
theorem fits_act {cs : List Value} (h : Fits actKinds cs) : ∃ x : AAct, cs = x.cells := by
  obtain ⟨hl, hf⟩ := h
  match cs, hl with
  | [v0, v1, v2, v3], _ =>
    obtain ⟨n0, rfl, _⟩ := hf 0 _ _ rfl rfl
    obtain ⟨n1, rfl, _⟩ := hf 1 _ _ rfl rfl
    obtain ⟨s2, rfl, _⟩ := hf 2 _ _ rfl rfl
    obtain ⟨n3, rfl, _⟩ := hf 3 _ _ rfl rfl
    exact ⟨⟨n0, n1, s2, n3⟩, rfl⟩
theorem open_row {α : Type} [Inhabited α] {cells : α → List Value} {sz n : Nat} {t e : TypeId} {ks : List CK} (ht : Tryd.prog.underlying t = some (.slice e)) (hk : flat Tryd.prog n e = some ks) (hc : Tryd.prog.cellsOf e = sz) (hpos : 0 < sz) (hfit : ∀ {cs : List Value}, Fits ks cs → ∃ x : α, cs = cells x)
    {H : Type} {enc : TypeId × Value → H} {w : World} {fuel : Nat} {a0 : Option Addr} {len0 cap0 : Nat} {x : DataW H × List MemPlace} (h : DataW.trod enc Tryd.prog w 0 (fun _ => true) true fuel t (Value.cells (.slice a0 len0 cap0)).toList = some x) :
    ∃ ms, RowOf cells sz w a0 len0 ms := by
  have hcm : len0 ≤ maxLen := by
    rcases Deep.open_slice ht h with ⟨hcs, _⟩ | ⟨a, len, cap, m, n, D, Pl, hcs, _, hl, hm, _⟩
    · simp [Value.cells] at hcs; omega
    · simp [Value.cells] at hcs; omega
  rcases open_flat ht n sz hk hc hpos h with ⟨hcs, _⟩ | ⟨a, len, cap, m, elems, rest, ps, C, hcs, _, hel, hm, hlm, hx⟩
  · simp [Value.cells] at hcs
    obtain ⟨rfl, rfl, rfl⟩ := hcs
    exact ⟨fun _ => default, Nat.zero_le _, fun h => by omega⟩
  · simp [Value.cells] at hcs
    obtain ⟨rfl, rfl, rfl⟩ := hcs
    by_cases hl : 0 < len0
    · obtain ⟨b, o, rfl, hbl, hc⟩ := hx hl
      obtain ⟨ms, hms⟩ := Deep.choose_lt (α := α) (n := len0) (p := fun i x => C i = cells x) (fun i hi => hfit (hc i hi).1)
      exact ⟨ms, hcm, fun _ => ⟨b, o, rfl, hbl, fun i hi j v hv => (hc i hi).2 j v (by rw [hms i hi]; exact hv)⟩⟩
    · obtain rfl : len0 = 0 := by omega
      exact ⟨fun _ => default, Nat.zero_le _, fun h => by omega⟩
instance : Inhabited AAct := ⟨⟨0, 0, ByteArray.empty, 0⟩⟩
theorem open_acts {H : Type} {enc : TypeId × Value → H} {w : World} {fuel : Nat} {a0 : Option Addr} {len0 cap0 : Nat} {x : DataW H × List MemPlace} (h : DataW.trod enc Tryd.prog w 0 (fun _ => true) true fuel 38 (Value.cells (.slice a0 len0 cap0)).toList = some x)
    {ts : List TypeId} {ds : List (DataW H)} (_hsz : (DataW.weightsEach Tryd.prog ts ds).all (· ≤ reachBytes) = true) {j : Nat} (_ht : ts[j]? = some 38) (_hd : ds[j]? = some x.1) : ∃ ms, RowOf AAct.cells 4 w a0 len0 ms :=
  open_row Tryd.underlying38 act_flat act_cells (by omega) fits_act h

/-- What adding each of the first acts comes to. -/
def addAll (ms : Nat → AAct) : Nat → Wishes
  | 0 => fun _ => []
  | i + 1 => (tAdd (addAll ms i) (ms i).who (ms i).f (ms i).q).2
/-- The trie, and where it lies: nothing of it is older than B. -/
def TrieB (B : Nat) (w : World) (t : Nat) (F : List Nat) (A : Wishes) : Prop := TrieF w t F A ∧ ∀ x ∈ F, B ≤ x
theorem TrieB.left {B : Nat} {w w' : World} {t : Nat} {F : List Nat} {A A' : Wishes} (h : TrieB B w t F A) (hB : B ≤ w.heap.size) (hL : Left w t F A' w') : (∃ F', TrieB B w' t F' A') ∧ Below B w w' := by
  obtain ⟨F', h1, h2, h3⟩ := hL
  refine ⟨⟨F', h1, fun x hx => ?_⟩, h3.below hB h.2⟩
  rcases h2 x hx with h4 | h4
  · exact h.2 x h4
  · omega
theorem TrieB.same {B : Nat} {w w' : World} {t : Nat} {F : List Nat} {A A' : Wishes} (h : TrieB B w t F A) (hB : B ≤ w.heap.size) (h1 : TrieF w' t F A') (h2 : Own F w w') : TrieB B w' t F A' ∧ Below B w w' := ⟨⟨h1, h.2⟩, h2.below hB h.2⟩
theorem TrieB.nil' {B : Nat} {w w' : World} {t : Nat} {F : List Nat} {A : Wishes} (h : TrieB B w t F A) (ho : Own [] w w') : TrieB B w' t F A := ⟨h.1.nil' ho, h.2⟩
end Go.Proofs.YtamclcdcpaiojaaDoor
