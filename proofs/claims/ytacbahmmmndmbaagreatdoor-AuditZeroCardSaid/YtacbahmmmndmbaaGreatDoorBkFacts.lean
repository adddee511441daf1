/- AuditZero: the row's closed facts, one by one. -/
import Derived.Test.YtacbahmmmndmbaaGreatDoorJoinParts
import Derived.Test.YtacbahmmmndmbaaGreatDoorBkOut
import Derived.Test.YtacbahmmmndmbaaGreatDoorBkCut
set_option maxRecDepth 1000000
namespace Go.Proofs.YtacbahmmmndmbaaGreatDoor
open Go
theorem az_k1 : Rows.auditZeroRow.wf (OpenSpec.ofChange (OpenSpec.ofChange Rows.auditZeroSpec).bare) = true := by kernel_rfl
theorem az_k2 : laidOutB Tryz.pinned.checked.prog = true := bo_all
theorem az_k3 : mapsRowed Tryz.pinned.checked.prog = true := by kernel_rfl
theorem az_k4 : Tryz.f4.params.all (Tryz.pinned.checked.prog.readableRec ·) = true := by kernel_rfl
theorem az_k5 : namedTie Tryz.pinned.checked.prog Rows.auditZeroRow.named (OpenSpec.ofChange Rows.auditZeroSpec).bare.vars = true := by kernel_rfl
theorem az_k6 : (Rows.auditZeroRow.stops == []) = true := by kernel_rfl
theorem az_k7 : (Tryz.pinned.checked.prog.stops == []) = true := by kernel_rfl
theorem az_k8 : (Rows.auditZeroRow.knobs == []) = true := by kernel_rfl
theorem az_k9 : (Tryz.pinned.checked.prog.stopKnobs == []) = true := by kernel_rfl
theorem az_k11 : (Rows.auditZeroRow.unfollowed == Tryz.pinned.checked.prog.unfollowed 4) = true := by kernel_rfl
theorem az_k12 : (Rows.auditZeroRow.recurses == Tryz.pinned.checked.prog.recurses 4) = true := by kernel_rfl
theorem az_k14 : (Rows.auditZeroRow.maps == (Tryz.f4.params.toList ++ (OpenSpec.ofChange Rows.auditZeroSpec).bare.plain.varTypes Tryz.pinned.checked.prog).any (Tryz.pinned.checked.prog.mapsRec ·)) = true := by kernel_rfl
theorem az_k15 : (Rows.auditZeroRow.ifaces == (Tryz.f4.params.toList ++ (OpenSpec.ofChange Rows.auditZeroSpec).bare.plain.varTypes Tryz.pinned.checked.prog).any (Tryz.pinned.checked.prog.ifacesRec ·)) = true := by kernel_rfl
theorem az_k16 : (Rows.auditZeroRow.mapsOut == Tryz.pinned.checked.prog.mapsAmong Tryz.f4.resultTypes.toList) = true := by kernel_rfl
theorem az_k17 : (Rows.auditZeroRow.loops == (Tryz.f4.params.toList ++ (OpenSpec.ofChange Rows.auditZeroSpec).bare.plain.varTypes Tryz.pinned.checked.prog).any (Tryz.pinned.checked.prog.loopsFrom ·)) = true := by kernel_rfl
theorem az_k18 : (Rows.auditZeroRow.wideKeys == (Tryz.f4.params.toList ++ (OpenSpec.ofChange Rows.auditZeroSpec).bare.plain.varTypes Tryz.pinned.checked.prog ++ Tryz.f4.resultTypes.toList).any (Tryz.pinned.checked.prog.wideKeysFrom ·)) = true := by kernel_rfl
theorem az_k19 : (OpenSpec.ofChange Rows.auditZeroSpec).bare.vars.all (Tryz.pinned.checked.prog.varReadable ·) = true := by kernel_rfl
theorem az_k20 : Tryz.f4.resultTypes.all (fun t => Tryz.pinned.checked.prog.readableRec t && decide (t < Tryz.pinned.checked.prog.types.size)) = true := by kernel_rfl
theorem az_k21 : (Rows.auditZeroRow.ifacesOut == Tryz.f4.resultTypes.toList.any (Tryz.pinned.checked.prog.ifacesRec ·)) = true := by kernel_rfl
theorem az_k22 : (Rows.auditZeroRow.loopsOut == Tryz.f4.resultTypes.toList.any (Tryz.pinned.checked.prog.loopsFrom ·)) = true := by kernel_rfl
theorem az_k23 : (Rows.auditZeroRow.plainKeys == Tryz.pinned.checked.prog.plainKeys) = true := by kernel_rfl
theorem az_k24 : Rows.auditZeroRow.shortTexts.isNone = true := by kernel_rfl
theorem az_k25 : Tryz.pinned.checked.prog.stopsHeard = true := by kernel_rfl
theorem az_k26 : Tryz.pinned.checked.prog.mayEnter = true := by kernel_rfl
theorem az_k27 : (Rows.auditZeroRow.lifted == Tryz.pinned.checked.prog.liftsFinal) = true := by kernel_rfl
theorem az_k28 : (Tryz.pinned.checked.prog.make == some Rows.auditZeroRow.make) = true := by kernel_rfl
theorem az_k29 : (Rows.auditZeroRow.kinds == (if Rows.auditZeroRow.domain.isEmpty then [] else Tryz.f4.params.toList.map fun t => match Tryz.pinned.checked.prog.underlying t with | some (.int k) => some k | _ => none)) = true := by kernel_rfl
theorem az_k30 : (Rows.auditZeroRow.pinned == Rows.auditZeroRow.pinnedBy) = true := by kernel_rfl
theorem az_k31 : (Rows.auditZeroRow.veiled == (Tryz.f4.params.toList ++ (OpenSpec.ofChange Rows.auditZeroSpec).bare.plain.varTypes Tryz.pinned.checked.prog ++ Tryz.f4.resultTypes.toList).any (Tryz.pinned.checked.prog.veiledRec ·)) = true := by kernel_rfl
theorem az_k32 : Rows.auditZeroRow.veiledFits Tryz.pinned.checked.prog Tryz.f4.params.toList (Tryz.f4.params.toList ++ (OpenSpec.ofChange Rows.auditZeroSpec).bare.plain.varTypes Tryz.pinned.checked.prog ++ Tryz.f4.resultTypes.toList) = true := by kernel_rfl
theorem az_closed : joinedFacts Tryz.pinned.checked.prog 4 Tryz.f4 (OpenSpec.ofChange Rows.auditZeroSpec).bare Rows.auditZeroRow = true := joined_parts az_k1 az_k2 az_k3 az_k4 az_k5 az_k6 az_k7 az_k8 az_k9 az_k10 az_k11 az_k12 az_k13 az_k14 az_k15 az_k16 az_k17 az_k18 az_k19 az_k20 az_k21 az_k22 az_k23 az_k24 az_k25 az_k26 az_k27 az_k28 az_k29 az_k30 az_k31 az_k32
end Go.Proofs.YtacbahmmmndmbaaGreatDoor
