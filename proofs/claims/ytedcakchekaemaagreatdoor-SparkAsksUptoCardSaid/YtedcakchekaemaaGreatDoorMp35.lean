/- Contracts of the program, part 35. -/
import Derived.Test.YtedcakchekaemaaGreatDoorMp33
set_option maxRecDepth 100000
set_option maxHeartbeats 16000000
set_option linter.all false
namespace Go.Proofs.YtedcakchekaemaaGreatDoor
open Go
theorem Z5:Rows.sparkAsksUptoRow.wf (OpenSpec.ofChange (Rows.OpenSpec.upto Rows.sparkAsksSpec).bare)=true:=by kernel_rfl
theorem Z6:laidOutB Tryz.pinned.checked.prog=true:=by kernel_rfl
theorem Z7:mapsRowed Tryz.pinned.checked.prog=true:=by kernel_rfl
theorem Z8:Tryz.f3.params.all (Tryz.pinned.checked.prog.readableRec ·)=true:=by kernel_rfl
theorem Z9:namedTie Tryz.pinned.checked.prog Rows.sparkAsksUptoRow.named (Rows.OpenSpec.upto Rows.sparkAsksSpec).bare.vars=true:=by kernel_rfl
theorem aac:(Rows.sparkAsksUptoRow.stops==[])=true:=by kernel_rfl
theorem aad:(Tryz.pinned.checked.prog.stops==[])=true:=by kernel_rfl
theorem aae:(Rows.sparkAsksUptoRow.knobs==[])=true:=by kernel_rfl
theorem aaf:(Tryz.pinned.checked.prog.stopKnobs==[])=true:=by kernel_rfl
theorem WS:(Rows.sparkAsksUptoRow.inPlace==Tryz.pinned.checked.prog.inPlace 3)=true:=by kernel_rfl
theorem WT:(Rows.sparkAsksUptoRow.unfollowed==Tryz.pinned.checked.prog.unfollowed 3)=true:=by kernel_rfl
theorem WU:(Rows.sparkAsksUptoRow.recurses==Tryz.pinned.checked.prog.recurses 3)=true:=by kernel_rfl
theorem WV:(Rows.sparkAsksUptoRow.named==Tryz.pinned.checked.prog.varsNamed 3)=true:=by kernel_rfl
theorem WW:(Rows.sparkAsksUptoRow.maps==(Tryz.f3.params.toList++(Rows.OpenSpec.upto Rows.sparkAsksSpec).bare.plain.varTypes Tryz.pinned.checked.prog).any (Tryz.pinned.checked.prog.mapsRec ·))=true:=by kernel_rfl
theorem WX:(Rows.sparkAsksUptoRow.ifaces==(Tryz.f3.params.toList++(Rows.OpenSpec.upto Rows.sparkAsksSpec).bare.plain.varTypes Tryz.pinned.checked.prog).any (Tryz.pinned.checked.prog.ifacesRec ·))=true:=by kernel_rfl
theorem WY:(Rows.sparkAsksUptoRow.mapsOut==Tryz.pinned.checked.prog.mapsAmong Tryz.f3.resultTypes.toList)=true:=by kernel_rfl
theorem WZ:(Rows.sparkAsksUptoRow.loops==(Tryz.f3.params.toList++(Rows.OpenSpec.upto Rows.sparkAsksSpec).bare.plain.varTypes Tryz.pinned.checked.prog).any (Tryz.pinned.checked.prog.loopsFrom ·))=true:=by kernel_rfl
theorem Xa:(Rows.sparkAsksUptoRow.wideKeys==(Tryz.f3.params.toList++(Rows.OpenSpec.upto Rows.sparkAsksSpec).bare.plain.varTypes Tryz.pinned.checked.prog++Tryz.f3.resultTypes.toList).any (Tryz.pinned.checked.prog.wideKeysFrom ·))=true:=by kernel_rfl
theorem Xb:(Rows.OpenSpec.upto Rows.sparkAsksSpec).bare.vars.all (Tryz.pinned.checked.prog.varReadable ·)=true:=by kernel_rfl
theorem Xc:Tryz.f3.resultTypes.all (fun t=>Tryz.pinned.checked.prog.readableRec t&&decide (t<Tryz.pinned.checked.prog.types.size))=true:=by kernel_rfl
theorem Xd:(Rows.sparkAsksUptoRow.ifacesOut==Tryz.f3.resultTypes.toList.any (Tryz.pinned.checked.prog.ifacesRec ·))=true:=by kernel_rfl
theorem Xe:(Rows.sparkAsksUptoRow.loopsOut==Tryz.f3.resultTypes.toList.any (Tryz.pinned.checked.prog.loopsFrom ·))=true:=by kernel_rfl
theorem Xf:(Rows.sparkAsksUptoRow.plainKeys==Tryz.pinned.checked.prog.plainKeys)=true:=by kernel_rfl
theorem Xg:Rows.sparkAsksUptoRow.shortTexts.isNone=true:=by kernel_rfl
theorem Xh:Tryz.pinned.checked.prog.stopsHeard=true:=by kernel_rfl
theorem Xi:Tryz.pinned.checked.prog.mayEnter=true:=by kernel_rfl
theorem Xj:(Rows.sparkAsksUptoRow.lifted==Tryz.pinned.checked.prog.liftsFinal)=true:=by kernel_rfl
theorem Xk:(Tryz.pinned.checked.prog.make==some Rows.sparkAsksUptoRow.make)=true:=by kernel_rfl
theorem Xl:(Rows.sparkAsksUptoRow.kinds==(if Rows.sparkAsksUptoRow.domain.isEmpty then[]else Tryz.f3.params.toList.map fun t=>match Tryz.pinned.checked.prog.underlying t with|some (.int k)=>some k|_=>none))=true:=by kernel_rfl
theorem Xm:(Rows.sparkAsksUptoRow.pinned==Rows.sparkAsksUptoRow.pinnedBy)=true:=by kernel_rfl
theorem Xn:(Rows.sparkAsksUptoRow.veiled==(Tryz.f3.params.toList++(Rows.OpenSpec.upto Rows.sparkAsksSpec).bare.plain.varTypes Tryz.pinned.checked.prog++Tryz.f3.resultTypes.toList).any (Tryz.pinned.checked.prog.veiledRec ·))=true:=by kernel_rfl
theorem Xo:Rows.sparkAsksUptoRow.veiledFits Tryz.pinned.checked.prog Tryz.f3.params.toList (Tryz.f3.params.toList++(Rows.OpenSpec.upto Rows.sparkAsksSpec).bare.plain.varTypes Tryz.pinned.checked.prog++Tryz.f3.resultTypes.toList)=true:=by kernel_rfl
theorem JJ:joinedFacts Tryz.pinned.checked.prog 3 Tryz.f3 (Rows.OpenSpec.upto Rows.sparkAsksSpec).bare Rows.sparkAsksUptoRow=true:=qp Z5 Z6 Z7 Z8 Z9 aac aad aae aaf WS WT WU WV WW WX WY WZ Xa Xb Xc Xd Xe Xf Xg Xh Xi Xj Xk Xl Xm Xn Xo
end Go.Proofs.YtedcakchekaemaaGreatDoor
