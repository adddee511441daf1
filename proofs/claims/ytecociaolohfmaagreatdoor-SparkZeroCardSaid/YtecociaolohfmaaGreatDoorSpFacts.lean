/- SparkZero: the row's closed facts, one by one. -/
import Derived.Test.YtecociaolohfmaaGreatDoorJoinParts
namespace Go.Proofs.YtecociaolohfmaaGreatDoor
open Go
theorem sz_k1 : Rows.sparkZeroRow.wf (OpenSpec.ofChange (OpenSpec.ofChange Rows.sparkZeroSpec).bare) = true := by kernel_rfl
theorem sz_k2 : laidOutB Tryz.pinned.checked.prog = true := by kernel_rfl
theorem sz_k3 : mapsRowed Tryz.pinned.checked.prog = true := by kernel_rfl
theorem sz_k4 : Tryz.f3.params.all (Tryz.pinned.checked.prog.readableRec ·) = true := by kernel_rfl
theorem sz_k5 : namedTie Tryz.pinned.checked.prog Rows.sparkZeroRow.named (OpenSpec.ofChange Rows.sparkZeroSpec).bare.vars = true := by kernel_rfl
theorem sz_k6 : (Rows.sparkZeroRow.stops == []) = true := by kernel_rfl
theorem sz_k7 : (Tryz.pinned.checked.prog.stops == []) = true := by kernel_rfl
theorem sz_k8 : (Rows.sparkZeroRow.knobs == []) = true := by kernel_rfl
theorem sz_k9 : (Tryz.pinned.checked.prog.stopKnobs == []) = true := by kernel_rfl
theorem sz_k10 : (Rows.sparkZeroRow.inPlace == Tryz.pinned.checked.prog.inPlace 3) = true := by kernel_rfl
theorem sz_k11 : (Rows.sparkZeroRow.unfollowed == Tryz.pinned.checked.prog.unfollowed 3) = true := by kernel_rfl
theorem sz_k12 : (Rows.sparkZeroRow.recurses == Tryz.pinned.checked.prog.recurses 3) = true := by kernel_rfl
theorem sz_k13 : (Rows.sparkZeroRow.named == Tryz.pinned.checked.prog.varsNamed 3) = true := by kernel_rfl
theorem sz_k14 : (Rows.sparkZeroRow.maps == (Tryz.f3.params.toList ++ (OpenSpec.ofChange Rows.sparkZeroSpec).bare.plain.varTypes Tryz.pinned.checked.prog).any (Tryz.pinned.checked.prog.mapsRec ·)) = true := by kernel_rfl
theorem sz_k15 : (Rows.sparkZeroRow.ifaces == (Tryz.f3.params.toList ++ (OpenSpec.ofChange Rows.sparkZeroSpec).bare.plain.varTypes Tryz.pinned.checked.prog).any (Tryz.pinned.checked.prog.ifacesRec ·)) = true := by kernel_rfl
theorem sz_k16 : (Rows.sparkZeroRow.mapsOut == Tryz.pinned.checked.prog.mapsAmong Tryz.f3.resultTypes.toList) = true := by kernel_rfl
theorem sz_k17 : (Rows.sparkZeroRow.loops == (Tryz.f3.params.toList ++ (OpenSpec.ofChange Rows.sparkZeroSpec).bare.plain.varTypes Tryz.pinned.checked.prog).any (Tryz.pinned.checked.prog.loopsFrom ·)) = true := by kernel_rfl
theorem sz_k18 : (Rows.sparkZeroRow.wideKeys == (Tryz.f3.params.toList ++ (OpenSpec.ofChange Rows.sparkZeroSpec).bare.plain.varTypes Tryz.pinned.checked.prog ++ Tryz.f3.resultTypes.toList).any (Tryz.pinned.checked.prog.wideKeysFrom ·)) = true := by kernel_rfl
theorem sz_k19 : (OpenSpec.ofChange Rows.sparkZeroSpec).bare.vars.all (Tryz.pinned.checked.prog.varReadable ·) = true := by kernel_rfl
theorem sz_k20 : Tryz.f3.resultTypes.all (fun t => Tryz.pinned.checked.prog.readableRec t && decide (t < Tryz.pinned.checked.prog.types.size)) = true := by kernel_rfl
theorem sz_k21 : (Rows.sparkZeroRow.ifacesOut == Tryz.f3.resultTypes.toList.any (Tryz.pinned.checked.prog.ifacesRec ·)) = true := by kernel_rfl
theorem sz_k22 : (Rows.sparkZeroRow.loopsOut == Tryz.f3.resultTypes.toList.any (Tryz.pinned.checked.prog.loopsFrom ·)) = true := by kernel_rfl
theorem sz_k23 : (Rows.sparkZeroRow.plainKeys == Tryz.pinned.checked.prog.plainKeys) = true := by kernel_rfl
theorem sz_k24 : Rows.sparkZeroRow.shortTexts.isNone = true := by kernel_rfl
theorem sz_k25 : Tryz.pinned.checked.prog.stopsHeard = true := by kernel_rfl
theorem sz_k26 : Tryz.pinned.checked.prog.mayEnter = true := by kernel_rfl
theorem sz_k27 : (Rows.sparkZeroRow.lifted == Tryz.pinned.checked.prog.liftsFinal) = true := by kernel_rfl
theorem sz_k28 : (Tryz.pinned.checked.prog.make == some Rows.sparkZeroRow.make) = true := by kernel_rfl
theorem sz_k29 : (Rows.sparkZeroRow.kinds == (if Rows.sparkZeroRow.domain.isEmpty then [] else Tryz.f3.params.toList.map fun t => match Tryz.pinned.checked.prog.underlying t with | some (.int k) => some k | _ => none)) = true := by kernel_rfl
theorem sz_k30 : (Rows.sparkZeroRow.pinned == Rows.sparkZeroRow.pinnedBy) = true := by kernel_rfl
theorem sz_k31 : (Rows.sparkZeroRow.veiled == (Tryz.f3.params.toList ++ (OpenSpec.ofChange Rows.sparkZeroSpec).bare.plain.varTypes Tryz.pinned.checked.prog ++ Tryz.f3.resultTypes.toList).any (Tryz.pinned.checked.prog.veiledRec ·)) = true := by kernel_rfl
theorem sz_k32 : Rows.sparkZeroRow.veiledFits Tryz.pinned.checked.prog Tryz.f3.params.toList (Tryz.f3.params.toList ++ (OpenSpec.ofChange Rows.sparkZeroSpec).bare.plain.varTypes Tryz.pinned.checked.prog ++ Tryz.f3.resultTypes.toList) = true := by kernel_rfl
set_option maxRecDepth 1000000 in
theorem sz_closed : joinedFacts Tryz.pinned.checked.prog 3 Tryz.f3 (OpenSpec.ofChange Rows.sparkZeroSpec).bare Rows.sparkZeroRow = true := joined_parts sz_k1 sz_k2 sz_k3 sz_k4 sz_k5 sz_k6 sz_k7 sz_k8 sz_k9 sz_k10 sz_k11 sz_k12 sz_k13 sz_k14 sz_k15 sz_k16 sz_k17 sz_k18 sz_k19 sz_k20 sz_k21 sz_k22 sz_k23 sz_k24 sz_k25 sz_k26 sz_k27 sz_k28 sz_k29 sz_k30 sz_k31 sz_k32
end Go.Proofs.YtecociaolohfmaaGreatDoor
