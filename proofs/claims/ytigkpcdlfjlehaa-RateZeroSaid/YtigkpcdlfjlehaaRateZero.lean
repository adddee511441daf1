/- RateZero: one that nobody made grants nothing. -/
import Derived.Test.YtigkpcdlfjlehaaRateTop
namespace Go.Proofs.Ytigkpcdlfjlehaa
open Go.RowKit
set_option maxRecDepth 100000 in
set_option maxHeartbeats 4000000 in
theorem zero_walk (key : ByteArray) (now : Int) (w : World) (_h0 : key.size ≤ 140737488351232) (_hn : (Lit.int .i64 now).wf = true) :
    Calls Try.prog 6 #[.string key, .int .i64 now] w fun e w' => e = .returned (.bool true) ∧ Below w.heap.size w w' := by
  clear _h0 _hn
  have hA := Lib.hid (fun w => awake_any w)
  go_enter Try.func6, Try.ntmps6
  go_wp2_with (first | (go_at_call 10; refine (hA.out _).mono ?_; rintro e w' ⟨rfl, hA3⟩) | go_in)
  go_ret
  refine ⟨rfl, ?_⟩
  exact ((Below.refl _ _).alloc (Nat.le_refl _) _).trans (hA3.below (by simp) (by simp))
end Go.Proofs.Ytigkpcdlfjlehaa
