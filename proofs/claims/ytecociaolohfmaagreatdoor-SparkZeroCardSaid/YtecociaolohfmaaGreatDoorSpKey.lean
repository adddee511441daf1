/- The key of spark's map: a struct of two strings (chapter 37). -/
import Derived.Test.YtecociaolohfmaaGreatDoorPairKind
import Derived.Test.YtecociaolohfmaaGreatDoorSpNew
namespace Go.Proofs.YtecociaolohfmaaGreatDoor
open Go.RowKit

theorem key_fields : (Tryz.prog.fieldsOf 60).toList.map (fun f => (f.name, f.type, f.offset)) = [("group", 9, 0), ("name", 9, 1)] := by kernel_rfl
theorem key_under : Tryz.prog.underlying 60 = some (.struct (Tryz.prog.fieldsOf 60)) := by kernel_rfl
theorem key_kind : KeyKind Tryz.prog 60 keyEnc :=
  pair_kind key_fields (by decide) (by decide) key_under (by kernel_rfl) Tryz.underlying9 (by kernel_rfl)
theorem nodesT : Tryz.prog.underlying 25 = some (.map 60 51) := Tryz.underlying25
end Go.Proofs.YtecociaolohfmaaGreatDoor
