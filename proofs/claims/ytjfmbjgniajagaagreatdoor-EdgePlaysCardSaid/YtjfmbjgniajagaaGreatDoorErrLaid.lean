/- The library's variable errors.errorType, as the rows list it: what a row gives, and a world that holds it (after the kit's worked example Toyas). -/
import Derived.Test.YtjfmbjgniajagaaGreatDoorItemsAwake
import Derived.Test.YtjfmbjgniajagaaGreatDoorCards
import Derived.Test.YtjfmbjgniajagaaGreatDoorTie
import Derived.LaidHandle
import Derived.LaidLaws
import Derived.PinnedBridge
import Derived.Stop.Joined
import Derived.Deep.DeepHandedRow
import Derived.Deep.DeepWitnessRowRef
namespace Go.Proofs.YtjfmbjgniajagaaGreatDoor
open Go.RowKit Go.WideShapes
def listed : List (String × DataW Unit) := [("errors.errorType", Rows.laid_errors_errorType)]
theorem et : Tryz.prog.globalNamed "errors.errorType" = some 0 := by kernel_rfl
theorem rt : (Tryz.prog.cutTypes.find? (·.1 == "internal/reflectlite.rtype")).map (·.2) = some 195 := by kernel_rfl
theorem oneRow : ((List.range 252).filter fun t => Tryz.prog.rowNamed t [101, 114, 114, 111, 114]) = [123] := by kernel_rfl
theorem nTypes : Tryz.prog.types.size = 252 := by kernel_rfl
theorem tabs_of {W : World} (h : laidMetH Tryz.prog listed W) : Errs W := by
  have h' : laidMet Tryz.prog [] W ∧ handlesMet Tryz.prog listed W := h
  obtain ⟨name, u, ty, e1, e2, e3, e4, e5⟩ := h'.2 _ (List.mem_singleton.2 rfl)
  have en : name = [101, 114, 114, 111, 114] := (Option.some.inj e1).symm
  subst en
  obtain rfl := Option.some.inj (rt.symm.trans e2)
  have hm : ty ∈ (List.range 252).filter fun t => Tryz.prog.rowNamed t [101, 114, 114, 111, 114] := List.mem_filter.2 ⟨List.mem_range.2 (by rw [← nTypes]; exact e3), e4⟩
  rw [oneRow] at hm
  obtain rfl := List.mem_singleton.1 hm
  have hh : typeHandle Tryz.prog 123 = .pointer (some ⟨1, 123, none⟩) := by kernel_rfl
  rw [hh] at e5
  unfold Errs
  simpa using World.var?_cell et e5 0
noncomputable def laidWorld (os : Os) : World :=
  let w0 := World.holding Tryz.prog os ⟨#[], #[], []⟩
  { w0 with heap := w0.heap.modify 0 fun
      | .cells _ t frozen => .cells #[.iface 195 (.agg #[.pointer (some ⟨1, 123, none⟩)])] t frozen
      | o => o }
theorem laid_met (os : Os) (args : Array Value) : laidMetH Tryz.prog listed ((laidWorld os).forCall (fun _ _ => 0) ⟨#[], args, []⟩).memory :=
  laidMetH_of_parts (laidMet_nil _ _) (by kernel_rfl)

/-! ### arguments -/
set_option maxRecDepth 100000 in
theorem open_mets {H : Type} {enc : TypeId × Value → H} {w : World} {fuel : Nat} {a0 : Option Addr} {len0 cap0 : Nat} {x : DataW H × List MemPlace} (h : DataW.trod enc Tryz.prog w 0 (fun _ => true) true fuel 37 (Value.cells (.slice a0 len0 cap0)).toList = some x)
    {ts : List TypeId} {ds : List (DataW H)} (hsz : (DataW.weightsEach Tryz.prog ts ds).all (· ≤ reachBytes) = true) {j : Nat} (ht : ts[j]? = some 37) (hd : ds[j]? = some x.1) : ∃ L : List Met, len0 = L.length ∧ L.length * 176 ≤ 140737488351232 ∧ MetsAt w a0 L :=
  open_rows Tryz.underlying37 met_flat met_cells (by omega) met_bytes (by omega) (fun _ => fits_met) h hsz ht hd
set_option maxRecDepth 100000 in
theorem open_itms {H : Type} {enc : TypeId × Value → H} {w : World} {fuel : Nat} {a0 : Option Addr} {len0 cap0 : Nat} {x : DataW H × List MemPlace} (h : DataW.trod enc Tryz.prog w 0 (fun _ => true) true fuel 42 (Value.cells (.slice a0 len0 cap0)).toList = some x)
    {ts : List TypeId} {ds : List (DataW H)} (hsz : (DataW.weightsEach Tryz.prog ts ds).all (· ≤ reachBytes) = true) {j : Nat} (ht : ts[j]? = some 42) (hd : ds[j]? = some x.1) : ∃ L : List Itm, len0 = L.length ∧ L.length * 72 ≤ 140737488351232 ∧ ItemsAt w a0 L :=
  open_rows Tryz.underlying42 item_flat item_cells (by omega) item_bytes (by omega) (fun _ => fits_item) h hsz ht hd
set_option maxRecDepth 100000 in
theorem open_met {H : Type} {enc : TypeId × Value → H} {w : World} {r : Reach} {b0 : Nat} {fuel : Nat} {v : Value} {x : DataW H × List MemPlace} (hv : Value.okWide Tryz.prog w r b0 36 v)
    (h : DataW.trod enc Tryz.prog w 0 (fun _ => true) true fuel 36 (Value.cells v).toList = some x) : ∃ m : Met, v = m.val := by
  obtain ⟨cs, rfl, _⟩ := okWide_struct Tryz.underlying36 hv
  obtain ⟨m, _, hm⟩ := fits_met (flat_fits 3 met_flat h)
  refine ⟨m, ?_⟩
  have : cs = m.cells.toArray := by
    apply Array.ext'
    simpa [Value.cells] using hm
  rw [this]
  rfl
end Go.Proofs.YtjfmbjgniajagaaGreatDoor
