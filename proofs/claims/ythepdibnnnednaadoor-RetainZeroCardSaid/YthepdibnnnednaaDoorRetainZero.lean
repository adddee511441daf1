/- RetainZero: a store that nobody made has nothing. -/
import Derived.Test.YthepdibnnnednaaDoorRetainAwake
import Derived.OpenShut
namespace Go.Proofs.YthepdibnnnednaaDoor
open Go.RowKit Go.WideShapes

theorem open_msg {H : Type} {enc : TypeId × Value → H} {w : World} {r : Reach} {b0 : Nat} {fuel : Nat} {v : Value} {x : DataW H × List MemPlace} (hv : Value.okWide Tryd.prog w r b0 26 v)
    (h : DataW.trod enc Tryd.prog w 0 (fun _ => true) true fuel 26 (Value.cells v).toList = some x) : ∃ m : Ms, v = m.val := by
  obtain ⟨cs, rfl, _⟩ := okWide_struct Tryd.underlying26 hv
  obtain ⟨m, hm⟩ := fits_msg (flat_fits 3 msg_flat h)
  refine ⟨m, ?_⟩
  have : cs = m.cells.toArray := by
    apply Array.ext'
    simpa [Value.cells] using hm
  rw [this]
  rfl

set_option maxRecDepth 100000 in
set_option maxHeartbeats 4000000 in
theorem zero_walk (x : Ms) (w : World) (hT : Tabs w) :
    Calls Tryd.prog 7 #[x.val] w fun e w' => e = .returned (.bool true) ∧ Below w.heap.size w w' := by
  obtain ⟨x1, x2, x3, x4⟩ := x
  have hq := fun w r => run_eql_map_nil w 48 9 26 r Tryd.underlying48
  unfold Ms.val
  go_enter Tryd.func7, Tryd.ntmps7
  go_wp2_with (first | (go_at_call 11; refine (awake_any _ ?hT).mono ?_; rotate_left; rintro e w1 ⟨rfl, hO⟩) | go_in)
  · go_ret
    exact ⟨rfl, (Own.trans (S := []) (by repeat (first | exact Own.refl _ _ | apply Own.alloc)) hO).below (Nat.le_refl _) (by simp)⟩
  · exact hT.own (S := []) (by repeat (first | exact Own.refl _ _ | apply Own.alloc)) (by simp)
end Go.Proofs.YthepdibnnnednaaDoor
