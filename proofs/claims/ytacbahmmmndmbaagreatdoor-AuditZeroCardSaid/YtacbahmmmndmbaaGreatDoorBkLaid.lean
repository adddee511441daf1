/- The package-level variables that the rows of chapters 39 and 41 list; an event that came in. -/
import Derived.Test.YtacbahmmmndmbaaGreatDoorFlat
import Derived.Test.YtacbahmmmndmbaaGreatDoorCards
import Derived.LaidByTextLater
import Derived.LaidHandle
import Derived.LaidLaws
import Derived.PinnedBridge
import Derived.Stop.Joined
import Derived.Lib.LaidIn
import Derived.Lib.LaidU8T
import Derived.Deep.DeepHandedRow
import Derived.Deep.DeepWitnessRowRef
namespace Go.Proofs.YtacbahmmmndmbaaGreatDoor
open Go.RowKit Go.Shelf Go.Lib Go.WideShapes
theorem first_eq : Rows.laid_unicode_utf8_first = Lib.firstData := Pinned.utf8First_eq
theorem accept_eq : (Rows.laid_unicode_utf8_acceptRanges : DataW Unit) = Lib.acceptData := by kernel_rfl
def listed : List (String × DataW Unit) := [("unicode/utf8.first", Rows.laid_unicode_utf8_first), ("unicode/utf8.acceptRanges", Rows.laid_unicode_utf8_acceptRanges), ("crier/head.may", Rows.laid_crier_head_may), ("crier/space.words", Rows.laid_crier_space_words), ("errors.errorType", Rows.laid_errors_errorType), ("internal/strconv.uint64pow10", Rows.laid_internal_strconv_uint64pow10), ("math/bits.deBruijn32tab", Rows.laid_math_bits_deBruijn32tab), ("math/bits.deBruijn64tab", Rows.laid_math_bits_deBruijn64tab)]
def plainL : List (String × DataW Unit) := [("unicode/utf8.first", Lib.firstData), ("unicode/utf8.acceptRanges", Lib.acceptData), ("crier/head.may", Rows.laid_crier_head_may), ("crier/space.words", Rows.laid_crier_space_words), ("internal/strconv.uint64pow10", Rows.laid_internal_strconv_uint64pow10), ("math/bits.deBruijn32tab", Rows.laid_math_bits_deBruijn32tab), ("math/bits.deBruijn64tab", Rows.laid_math_bits_deBruijn64tab)]
theorem plainL_eq : (listed.filter fun x => x.2.handleName?.isNone) = plainL := by
  have e : (listed.filter fun x => x.2.handleName?.isNone) = [("unicode/utf8.first", Rows.laid_unicode_utf8_first), ("unicode/utf8.acceptRanges", Rows.laid_unicode_utf8_acceptRanges), ("crier/head.may", Rows.laid_crier_head_may), ("crier/space.words", Rows.laid_crier_space_words), ("internal/strconv.uint64pow10", Rows.laid_internal_strconv_uint64pow10), ("math/bits.deBruijn32tab", Rows.laid_math_bits_deBruijn32tab), ("math/bits.deBruijn64tab", Rows.laid_math_bits_deBruijn64tab)] := by rfl
  rw [e, accept_eq, first_eq]
  rfl
/-- The cells of a listed array. -/
def valsOf (d : DataW Unit) : Array Value := match d with
  | .agg l => (l.map fun x : DataW Unit => match x with
    | .lit (.int k n) => Value.int k n
    | .lit (.bool b) => .bool b
    | .lit (.string s) => .string ⟨s.toArray⟩
    | _ => .bool false).toArray
  | _ => #[]
noncomputable def laidWorld (os : Os) : World :=
  let w0 := World.holding Tryz.prog os ⟨#[], #[], []⟩
  let put (h : Array Obj) (g : Nat) (cs : Array Value) : Array Obj := h.modify g fun
    | .cells _ t frozen => .cells cs t frozen
    | o => o
  let h1 := put w0.heap 2 (Lib.firstTab.map fun z => Value.int .u8 z).toArray
  let h2 := put h1 3 ((List.range 16).flatMap fun i => [Value.int .u8 (Lib.accLo i), Value.int .u8 (Lib.accHi i)]).toArray
  let h3 := put h2 0 (valsOf Rows.laid_crier_head_may)
  let h4 := put h3 1 (valsOf Rows.laid_crier_space_words)
  let h5 := put h4 6 (valsOf Rows.laid_internal_strconv_uint64pow10)
  let h6 := put h5 7 (valsOf Rows.laid_math_bits_deBruijn32tab)
  let h7 := put h6 8 (valsOf Rows.laid_math_bits_deBruijn64tab)
  let h8 := put h7 5 #[.iface 625 (.agg #[typeHandle Tryz.prog 408])]
  { w0 with heap := h8 }
theorem laid_met (os : Os) (args : Array Value) : laidMetH Tryz.prog listed ((laidWorld os).forCall (fun _ _ => 0) ⟨#[], args, []⟩).memory := by
  refine laidMetH_of_parts ?_ (by kernel_rfl)
  rw [plainL_eq]
  unfold plainL
  exact (LaidIn.of_run (l := [("unicode/utf8.first", Lib.firstData), ("unicode/utf8.acceptRanges", Lib.acceptData), ("crier/head.may", Rows.laid_crier_head_may), ("crier/space.words", Rows.laid_crier_space_words), ("internal/strconv.uint64pow10", Rows.laid_internal_strconv_uint64pow10), ("math/bits.deBruijn32tab", Rows.laid_math_bits_deBruijn32tab), ("math/bits.deBruijn64tab", Rows.laid_math_bits_deBruijn64tab)])
    [2, 3, 0, 1, 6, 7, 8] 8 (by kernel_rfl) (by kernel_rfl) (by kernel_rfl) (by kernel_rfl)).met
/-- What the walks of this chapter lean on: nothing. -/
theorem tabs_of {W : World} (_h : laidMetH Tryz.prog listed W) : True := trivial

end Go.Proofs.YtacbahmmmndmbaaGreatDoor
