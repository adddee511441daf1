/- HostZero: one that nobody made knows none. -/
import Derived.Test.YtnodacfhkgkliaaHostAwake
import Derived.Test.YtnodacfhkgkliaaArgs
namespace Go.Proofs.Ytnodacfhkgkliaa
open Go.RowKit
set_option maxRecDepth 100000 in
set_option maxHeartbeats 4000000 in
theorem zero_walk (n t : ByteArray) (w : World) (_hn : n.size ≤ 140737488351232) (_ht : t.size ≤ 140737488351232) :
    Calls Try.prog 6 #[.string n, .string t] w fun e w' => e = .returned (.bool true) ∧ Below w.heap.size w w' := by
  clear _hn _ht
  have hq := fun w r => run_eql_map_nil w 42 9 3 r Try.underlying42
  have hA := Lib.hid (fun w => awake_any w)
  go_enter Try.func6, Try.ntmps6
  go_wp2_with (first | (go_at_call 10; refine (hA.out _).mono ?_; rintro e w' ⟨rfl, hA3⟩) | go_in)
  go_ret
  refine ⟨rfl, ?_⟩
  exact ((Below.refl _ _).alloc (Nat.le_refl _) _).trans (hA3.below (by simp) (by simp))
end Go.Proofs.Ytnodacfhkgkliaa
