/- SeqsZero: a row that nobody made takes nothing. -/
import Derived.Test.YtahnjnmalahefaaSeqsAwake
import Derived.Test.YtahnjnmalahefaaArgs
namespace Go.Proofs.Ytahnjnmalahefaa
open Go.RowKit
set_option maxRecDepth 100000 in
set_option maxHeartbeats 4000000 in
theorem zero_walk (n : Int) (w : World) (hn : (Lit.int .i64 n).wf = true) :
    Calls Try.prog 6 #[.int .i64 n] w fun e w' => e = .returned (.bool true) ∧ Below w.heap.size w w' := by
  obtain ⟨h0, h1⟩ := bounds_i64 hn
  clear hn
  have hA := Lib.hid (fun w => awake_any w)
  go_enter Try.func6, Try.ntmps6
  go_wp2_with (first | (go_at_call 11; refine (hA.out _).mono ?_; rintro e w' ⟨rfl, hA3⟩) | (go_at_call 20; refine (of_any _ _).mono ?_; rintro e w' ⟨rfl, rfl⟩) | go_in)
  go_ret
  refine ⟨rfl, ?_⟩
  exact ((Below.refl _ _).alloc (Nat.le_refl _) _).trans (hA3.below (by simp) (by simp))
end Go.Proofs.Ytahnjnmalahefaa
