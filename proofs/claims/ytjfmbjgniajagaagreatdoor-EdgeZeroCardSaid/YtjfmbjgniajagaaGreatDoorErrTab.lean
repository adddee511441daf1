/- The library's variable errors.errorType, as the rows list it: a world that holds it (a law that does not read it). -/
import Derived.Test.YtjfmbjgniajagaaGreatDoorBase
import Derived.Test.YtjfmbjgniajagaaGreatDoorCards
import Derived.Test.YtjfmbjgniajagaaGreatDoorTie
import Derived.LaidHandle
import Derived.LaidLaws
import Derived.PinnedBridge
import Derived.Stop.Joined
import Derived.Deep.DeepHandedRow
import Derived.Deep.DeepWitnessRowRef
namespace Go.Proofs.YtjfmbjgniajagaaGreatDoor
open Go.RowKit Go.WideShapes
def listed : List (String × DataW Unit) := [("errors.errorType", Rows.laid_errors_errorType)]
theorem tabs_of {W : World} (_ : laidMetH Tryz.prog listed W) : True := trivial
noncomputable def laidWorld (os : Os) : World :=
  let w0 := World.holding Tryz.prog os ⟨#[], #[], []⟩
  { w0 with heap := w0.heap.modify 0 fun
      | .cells _ t frozen => .cells #[.iface 195 (.agg #[.pointer (some ⟨1, 123, none⟩)])] t frozen
      | o => o }
theorem laid_met (os : Os) (args : Array Value) : laidMetH Tryz.prog listed ((laidWorld os).forCall (fun _ _ => 0) ⟨#[], args, []⟩).memory :=
  laidMetH_of_parts (laidMet_nil _ _) (by kernel_rfl)
end Go.Proofs.YtjfmbjgniajagaaGreatDoor
