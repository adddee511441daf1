/- AliasZero: a table that nobody made has none. -/
import Derived.Test.YtjbmmgclkhigiaaAliasAwake
namespace Go.Proofs.Ytjbmmgclkhigiaa
open Go.RowKit
set_option maxRecDepth 100000 in
set_option maxHeartbeats 4000000 in
theorem zero_walk (ow : ByteArray) (a1 : Option Addr) (n1 c1 : Nat) (z1 : Nat → Itm) (n : Int) (w : World) (_h0 : ow.size ≤ 140737488351232) (_h1 : ItemRow w a1 n1 z1) (_hn : (Lit.int .u64 n).wf = true) :
    Calls Try.prog 6 #[.string ow, .slice a1 n1 c1, .int .u64 n] w fun e w' => e = .returned (.bool true) ∧ Below w.heap.size w w' := by
  clear _h0 _h1 _hn
  have hq := fun w r => run_eql_map_nil w 54 23 62 r Try.underlying54
  have hA := Lib.hid (fun w => awake_any w)
  go_enter Try.func6, Try.ntmps6
  go_wp2_with (first | (go_at_call 7; refine (hA.out _).mono ?_; rintro e w' ⟨rfl, hA3⟩) | go_in)
  go_ret
  refine ⟨rfl, ?_⟩
  exact ((Below.refl _ _).alloc (Nat.le_refl _) _).trans (hA3.below (by simp) (by simp))
end Go.Proofs.Ytjbmmgclkhigiaa
