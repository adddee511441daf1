/- The order of strings as slices.SortFunc asks for it. -/
import Derived.Test.YtldagaliddgdjaaGreatDoorSort
import Derived.Test.YtldagaliddgdjaaGreatDoorMrg1
namespace Go.Proofs.YtldagaliddgdjaaGreatDoor
open Go.RowKit Go.Sort

theorem ltOf_scmp {α : Type} (key : α → ByteArray) (x y : α) : ltOf (fun x y => scmp (key x) (key y)) x y = sless (key x) (key y) := by
  unfold ltOf
  show decide (scmp (key x) (key y) < 0) = _
  unfold scmp
  cases sless (key x) (key y)
  · cases ((key x).toList == (key y).toList) <;> rfl
  · rfl
theorem scmp_order {α : Type} (key : α → ByteArray) : SWO (ltOf fun x y : α => scmp (key x) (key y)) where
  irrefl x := by rw [ltOf_scmp]; exact sless_irrefl _
  trans x y z h1 h2 := by rw [ltOf_scmp] at *; exact sless_trans h1 h2
  ntrans x y z h1 h2 := by
    rw [ltOf_scmp] at *
    cases h : sless (key x) (key z)
    · rfl
    · exfalso
      by_cases he : key x = key y
      · rw [he, h2] at h; cases h
      · have := sless_trans (sless_of h1 (fun e => he e.symm)) h
        rw [h2] at this; cases this

end Go.Proofs.YtldagaliddgdjaaGreatDoor
