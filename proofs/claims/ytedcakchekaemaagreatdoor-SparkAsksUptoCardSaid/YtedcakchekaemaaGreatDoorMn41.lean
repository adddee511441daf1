import Derived.Test.YtedcakchekaemaaGreatDoorMn39
set_option maxRecDepth 100000
set_option maxHeartbeats 16000000
set_option linter.all false
namespace Go.Proofs.YtedcakchekaemaaGreatDoor
open Go
theorem Wn:Rows.sparkAsksUptoRow.wf (OpenSpec.ofChange (Rows.OpenSpec.upto Rows.sparkAsksSpec).bare)=true:=by kernel_rfl
theorem Wo:laidOutB Tryz.pinned.checked.prog=true:=by kernel_rfl
theorem Wp:mapsRowed Tryz.pinned.checked.prog=true:=by kernel_rfl
theorem Wq:Tryz.f3.params.all (Tryz.pinned.checked.prog.readableRec ·)=true:=by kernel_rfl
theorem Ws:namedTie Tryz.pinned.checked.prog Rows.sparkAsksUptoRow.named (Rows.OpenSpec.upto Rows.sparkAsksSpec).bare.vars=true:=by kernel_rfl
theorem Wu:(Rows.sparkAsksUptoRow.stops==[])=true:=by kernel_rfl
theorem Wv:(Tryz.pinned.checked.prog.stops==[])=true:=by kernel_rfl
theorem Ww:(Rows.sparkAsksUptoRow.knobs==[])=true:=by kernel_rfl
theorem Wx:(Tryz.pinned.checked.prog.stopKnobs==[])=true:=by kernel_rfl
theorem Tn:(Rows.sparkAsksUptoRow.inPlace==Tryz.pinned.checked.prog.inPlace 3)=true:=by kernel_rfl
theorem Tp:(Rows.sparkAsksUptoRow.unfollowed==Tryz.pinned.checked.prog.unfollowed 3)=true:=by kernel_rfl
theorem Tq:(Rows.sparkAsksUptoRow.recurses==Tryz.pinned.checked.prog.recurses 3)=true:=by kernel_rfl
theorem Tt:(Rows.sparkAsksUptoRow.named==Tryz.pinned.checked.prog.varsNamed 3)=true:=by kernel_rfl
theorem Tv:(Rows.sparkAsksUptoRow.maps==(Tryz.f3.params.toList++(Rows.OpenSpec.upto Rows.sparkAsksSpec).bare.plain.varTypes Tryz.pinned.checked.prog).any (Tryz.pinned.checked.prog.mapsRec ·))=true:=by kernel_rfl
theorem Tw:(Rows.sparkAsksUptoRow.ifaces==(Tryz.f3.params.toList++(Rows.OpenSpec.upto Rows.sparkAsksSpec).bare.plain.varTypes Tryz.pinned.checked.prog).any (Tryz.pinned.checked.prog.ifacesRec ·))=true:=by kernel_rfl
theorem Tx:(Rows.sparkAsksUptoRow.mapsOut==Tryz.pinned.checked.prog.mapsAmong Tryz.f3.resultTypes.toList)=true:=by kernel_rfl
theorem Ty:(Rows.sparkAsksUptoRow.loops==(Tryz.f3.params.toList++(Rows.OpenSpec.upto Rows.sparkAsksSpec).bare.plain.varTypes Tryz.pinned.checked.prog).any (Tryz.pinned.checked.prog.loopsFrom ·))=true:=by kernel_rfl
theorem Tz:(Rows.sparkAsksUptoRow.wideKeys==(Tryz.f3.params.toList++(Rows.OpenSpec.upto Rows.sparkAsksSpec).bare.plain.varTypes Tryz.pinned.checked.prog++Tryz.f3.resultTypes.toList).any (Tryz.pinned.checked.prog.wideKeysFrom ·))=true:=by kernel_rfl
theorem TA:(Rows.OpenSpec.upto Rows.sparkAsksSpec).bare.vars.all (Tryz.pinned.checked.prog.varReadable ·)=true:=by kernel_rfl
theorem TB:Tryz.f3.resultTypes.all (fun t=>Tryz.pinned.checked.prog.readableRec t&&decide (t<Tryz.pinned.checked.prog.types.size))=true:=by kernel_rfl
theorem TD:(Rows.sparkAsksUptoRow.ifacesOut==Tryz.f3.resultTypes.toList.any (Tryz.pinned.checked.prog.ifacesRec ·))=true:=by kernel_rfl
theorem TF:(Rows.sparkAsksUptoRow.loopsOut==Tryz.f3.resultTypes.toList.any (Tryz.pinned.checked.prog.loopsFrom ·))=true:=by kernel_rfl
theorem TG:(Rows.sparkAsksUptoRow.plainKeys==Tryz.pinned.checked.prog.plainKeys)=true:=by kernel_rfl
theorem TH:Rows.sparkAsksUptoRow.shortTexts.isNone=true:=by kernel_rfl
theorem TI:Tryz.pinned.checked.prog.stopsHeard=true:=by kernel_rfl
theorem TJ:Tryz.pinned.checked.prog.mayEnter=true:=by kernel_rfl
theorem TL:(Rows.sparkAsksUptoRow.lifted==Tryz.pinned.checked.prog.liftsFinal)=true:=by kernel_rfl
theorem TM:(Tryz.pinned.checked.prog.make==some Rows.sparkAsksUptoRow.make)=true:=by kernel_rfl
theorem TN:(Rows.sparkAsksUptoRow.kinds==(if Rows.sparkAsksUptoRow.domain.isEmpty then[]else Tryz.f3.params.toList.map fun t=>match Tryz.pinned.checked.prog.underlying t with|some (.int k)=>some k|_=>none))=true:=by kernel_rfl
theorem TP:(Rows.sparkAsksUptoRow.pinned==Rows.sparkAsksUptoRow.pinnedBy)=true:=by kernel_rfl
theorem TQ:(Rows.sparkAsksUptoRow.veiled==(Tryz.f3.params.toList++(Rows.OpenSpec.upto Rows.sparkAsksSpec).bare.plain.varTypes Tryz.pinned.checked.prog++Tryz.f3.resultTypes.toList).any (Tryz.pinned.checked.prog.veiledRec ·))=true:=by kernel_rfl
theorem TR:Rows.sparkAsksUptoRow.veiledFits Tryz.pinned.checked.prog Tryz.f3.params.toList (Tryz.f3.params.toList++(Rows.OpenSpec.upto Rows.sparkAsksSpec).bare.plain.varTypes Tryz.pinned.checked.prog++Tryz.f3.resultTypes.toList)=true:=by kernel_rfl
theorem HY:joinedFacts Tryz.pinned.checked.prog 3 Tryz.f3 (Rows.OpenSpec.upto Rows.sparkAsksSpec).bare Rows.sparkAsksUptoRow=true:=BD Wn Wo Wp Wq Ws Wu Wv Ww Wx Tn Tp Tq Tt Tv Tw Tx Ty Tz TA TB TD TF TG TH TI TJ TL TM TN TP TQ TR
end Go.Proofs.YtedcakchekaemaaGreatDoor
