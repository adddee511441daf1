/- A []api.Item that came in. -/
import Derived.Test.YtjbmmgclkhigiaaFlat
import Derived.Test.YtjbmmgclkhigiaaAlias
import Derived.SizedLaws
namespace Go.Proofs.Ytjbmmgclkhigiaa
open Go.RowKit Go.ChangeShapes
def itemKinds : List CK := [.str, .bool, .int .u64, .int .u32, .bool, .int .i64, .int .u64, .str]
theorem item_flat : flat Try.prog 3 33 = some itemKinds := by kernel_rfl
theorem item_cells : Try.prog.cellsOf 33 = 8 := by kernel_rfl
theorem item_bytes : Try.prog.bytesOf 33 = 72 := by kernel_rfl
theorem fits_item {cs : List Value} (h : Fits itemKinds cs) : ∃ x : Itm, x.wf ∧ cs = x.cells := by
  obtain ⟨hl, hf⟩ := h
  match cs, hl with
  | [v0, v1, v2, v3, v4, v5, v6, v7], _ =>
    obtain ⟨s0, rfl, _⟩ := hf 0 _ _ rfl rfl
    obtain ⟨b1, rfl⟩ := hf 1 _ _ rfl rfl
    obtain ⟨n2, rfl, w2⟩ := hf 2 _ _ rfl rfl
    obtain ⟨n3, rfl, w3⟩ := hf 3 _ _ rfl rfl
    obtain ⟨b4, rfl⟩ := hf 4 _ _ rfl rfl
    obtain ⟨n5, rfl, w5⟩ := hf 5 _ _ rfl rfl
    obtain ⟨n6, rfl, w6⟩ := hf 6 _ _ rfl rfl
    obtain ⟨s7, rfl, _⟩ := hf 7 _ _ rfl rfl
    obtain ⟨a1, a2⟩ := bounds_u64 w2
    obtain ⟨a3, a4⟩ := bounds_u32 w3
    obtain ⟨a5, a6⟩ := bounds_i64 w5
    obtain ⟨a7, a8⟩ := bounds_u64 w6
    exact ⟨⟨s0, b1, n2, n3, b4, n5, n6, s7⟩, ⟨a1, a2, a3, a4, a5, a6, a7, a8⟩, rfl⟩
theorem itemRow_nil (w : World) (a : Option Addr) (its : Nat → Itm) : ItemRow w a 0 its := ⟨by omega, fun h => by omega⟩
/-- As an argument is read. -/
theorem open_items {H : Type} {enc : TypeId × Value → H} {w : World} {fuel : Nat} {a0 : Option Addr} {len0 cap0 : Nat} {x : DataW H × List MemPlace} (h : DataW.trod enc Try.prog w 0 (fun _ => true) true fuel 22 (Value.cells (.slice a0 len0 cap0)).toList = some x)
    {ts : List TypeId} {ds : List (DataW H)} (hsz : (DataW.weightsEach Try.prog ts ds).all (· ≤ reachBytes) = true) {j : Nat} (ht : ts[j]? = some 22) (hd : ds[j]? = some x.1) :
    ∃ its, ItemRow w a0 len0 its := by
  rcases open_flat Try.underlying22 3 8 item_flat item_cells (by omega) h with ⟨hcs, _⟩ | ⟨a, len, cap, m, elems, rest, ps, C, hcs, rfl, hel, hm, hlm, hx⟩
  · simp [Value.cells] at hcs
    obtain ⟨rfl, rfl, rfl⟩ := hcs
    exact ⟨fun _ => Itm.zero, itemRow_nil _ _ _⟩
  · simp [Value.cells] at hcs
    obtain ⟨rfl, rfl, rfl⟩ := hcs
    have hb := sized_slice hsz ht hd Try.underlying22
    rw [item_bytes] at hb
    simp only [reachBytes] at hb
    by_cases hl : 0 < len0
    · obtain ⟨b, o, rfl, hbl, hc⟩ := hx hl
      obtain ⟨its, hits⟩ := Deep.choose_lt (α := Itm) (n := len0) (p := fun i x => x.wf ∧ C i = x.cells) (fun i hi => fits_item (hc i hi).1)
      refine ⟨its, by omega, fun _ => ⟨b, o, rfl, hbl, fun i hi => ⟨(hits i hi).1, fun j v hv => (hc i hi).2 j v (by rw [(hits i hi).2]; exact hv)⟩⟩⟩
    · obtain rfl : len0 = 0 := by omega
      exact ⟨fun _ => Itm.zero, itemRow_nil _ _ _⟩
end Go.Proofs.Ytjbmmgclkhigiaa
