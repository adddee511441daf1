/- Contracts of the program, part 42. -/
import Derived.Test.YtedcakchekaemaaGreatDoorMp33
set_option maxRecDepth 100000
set_option maxHeartbeats 16000000
set_option linter.all false
namespace Go.Proofs.YtedcakchekaemaaGreatDoor
open Go
theorem XE:Rows.sparkAloneUptoRow.wf (OpenSpec.ofChange (Rows.OpenSpec.upto Rows.sparkAloneSpec).bare)=true:=by kernel_rfl
theorem XF:laidOutB Tryz.pinned.checked.prog=true:=by kernel_rfl
theorem XG:mapsRowed Tryz.pinned.checked.prog=true:=by kernel_rfl
theorem XH:Tryz.f5.params.all (Tryz.pinned.checked.prog.readableRec ·)=true:=by kernel_rfl
theorem XI:namedTie Tryz.pinned.checked.prog Rows.sparkAloneUptoRow.named (Rows.OpenSpec.upto Rows.sparkAloneSpec).bare.vars=true:=by kernel_rfl
theorem XJ:(Rows.sparkAloneUptoRow.stops==[])=true:=by kernel_rfl
theorem XK:(Tryz.pinned.checked.prog.stops==[])=true:=by kernel_rfl
theorem XL:(Rows.sparkAloneUptoRow.knobs==[])=true:=by kernel_rfl
theorem XM:(Tryz.pinned.checked.prog.stopKnobs==[])=true:=by kernel_rfl
theorem TR:(Rows.sparkAloneUptoRow.inPlace==Tryz.pinned.checked.prog.inPlace 5)=true:=by kernel_rfl
theorem TU:(Rows.sparkAloneUptoRow.unfollowed==Tryz.pinned.checked.prog.unfollowed 5)=true:=by kernel_rfl
theorem TW:(Rows.sparkAloneUptoRow.recurses==Tryz.pinned.checked.prog.recurses 5)=true:=by kernel_rfl
theorem T9:(Rows.sparkAloneUptoRow.named==Tryz.pinned.checked.prog.varsNamed 5)=true:=by kernel_rfl
theorem Ua:(Rows.sparkAloneUptoRow.maps==(Tryz.f5.params.toList++(Rows.OpenSpec.upto Rows.sparkAloneSpec).bare.plain.varTypes Tryz.pinned.checked.prog).any (Tryz.pinned.checked.prog.mapsRec ·))=true:=by kernel_rfl
theorem Ub:(Rows.sparkAloneUptoRow.ifaces==(Tryz.f5.params.toList++(Rows.OpenSpec.upto Rows.sparkAloneSpec).bare.plain.varTypes Tryz.pinned.checked.prog).any (Tryz.pinned.checked.prog.ifacesRec ·))=true:=by kernel_rfl
theorem Uc:(Rows.sparkAloneUptoRow.mapsOut==Tryz.pinned.checked.prog.mapsAmong Tryz.f5.resultTypes.toList)=true:=by kernel_rfl
theorem Ud:(Rows.sparkAloneUptoRow.loops==(Tryz.f5.params.toList++(Rows.OpenSpec.upto Rows.sparkAloneSpec).bare.plain.varTypes Tryz.pinned.checked.prog).any (Tryz.pinned.checked.prog.loopsFrom ·))=true:=by kernel_rfl
theorem Ue:(Rows.sparkAloneUptoRow.wideKeys==(Tryz.f5.params.toList++(Rows.OpenSpec.upto Rows.sparkAloneSpec).bare.plain.varTypes Tryz.pinned.checked.prog++Tryz.f5.resultTypes.toList).any (Tryz.pinned.checked.prog.wideKeysFrom ·))=true:=by kernel_rfl
theorem Uf:(Rows.OpenSpec.upto Rows.sparkAloneSpec).bare.vars.all (Tryz.pinned.checked.prog.varReadable ·)=true:=by kernel_rfl
theorem Ug:Tryz.f5.resultTypes.all (fun t=>Tryz.pinned.checked.prog.readableRec t&&decide (t<Tryz.pinned.checked.prog.types.size))=true:=by kernel_rfl
theorem Uh:(Rows.sparkAloneUptoRow.ifacesOut==Tryz.f5.resultTypes.toList.any (Tryz.pinned.checked.prog.ifacesRec ·))=true:=by kernel_rfl
theorem Ui:(Rows.sparkAloneUptoRow.loopsOut==Tryz.f5.resultTypes.toList.any (Tryz.pinned.checked.prog.loopsFrom ·))=true:=by kernel_rfl
theorem Uj:(Rows.sparkAloneUptoRow.plainKeys==Tryz.pinned.checked.prog.plainKeys)=true:=by kernel_rfl
theorem Uk:Rows.sparkAloneUptoRow.shortTexts.isNone=true:=by kernel_rfl
theorem Ul:Tryz.pinned.checked.prog.stopsHeard=true:=by kernel_rfl
theorem Um:Tryz.pinned.checked.prog.mayEnter=true:=by kernel_rfl
theorem Un:(Rows.sparkAloneUptoRow.lifted==Tryz.pinned.checked.prog.liftsFinal)=true:=by kernel_rfl
theorem Uo:(Tryz.pinned.checked.prog.make==some Rows.sparkAloneUptoRow.make)=true:=by kernel_rfl
theorem Uq:(Rows.sparkAloneUptoRow.kinds==(if Rows.sparkAloneUptoRow.domain.isEmpty then[]else Tryz.f5.params.toList.map fun t=>match Tryz.pinned.checked.prog.underlying t with|some (.int k)=>some k|_=>none))=true:=by kernel_rfl
theorem Ur:(Rows.sparkAloneUptoRow.pinned==Rows.sparkAloneUptoRow.pinnedBy)=true:=by kernel_rfl
theorem Us:(Rows.sparkAloneUptoRow.veiled==(Tryz.f5.params.toList++(Rows.OpenSpec.upto Rows.sparkAloneSpec).bare.plain.varTypes Tryz.pinned.checked.prog++Tryz.f5.resultTypes.toList).any (Tryz.pinned.checked.prog.veiledRec ·))=true:=by kernel_rfl
theorem Ut:Rows.sparkAloneUptoRow.veiledFits Tryz.pinned.checked.prog Tryz.f5.params.toList (Tryz.f5.params.toList++(Rows.OpenSpec.upto Rows.sparkAloneSpec).bare.plain.varTypes Tryz.pinned.checked.prog++Tryz.f5.resultTypes.toList)=true:=by kernel_rfl
theorem F9:joinedFacts Tryz.pinned.checked.prog 5 Tryz.f5 (Rows.OpenSpec.upto Rows.sparkAloneSpec).bare Rows.sparkAloneUptoRow=true:=qp XE XF XG XH XI XJ XK XL XM TR TU TW T9 Ua Ub Uc Ud Ue Uf Ug Uh Ui Uj Uk Ul Um Un Uo Uq Ur Us Ut
end Go.Proofs.YtedcakchekaemaaGreatDoor
