/- Contracts of the program, part 39. -/
import Derived.Test.YtedcakchekaemaaGreatDoorMp33
set_option maxRecDepth 100000
set_option maxHeartbeats 16000000
set_option linter.all false
namespace Go.Proofs.YtedcakchekaemaaGreatDoor
open Go
theorem Xv:Rows.sparkBornUptoRow.wf (OpenSpec.ofChange (Rows.OpenSpec.upto Rows.sparkBornSpec).bare)=true:=by kernel_rfl
theorem Xw:laidOutB Tryz.pinned.checked.prog=true:=by kernel_rfl
theorem Xx:mapsRowed Tryz.pinned.checked.prog=true:=by kernel_rfl
theorem Xy:Tryz.f4.params.all (Tryz.pinned.checked.prog.readableRec ·)=true:=by kernel_rfl
theorem Xz:namedTie Tryz.pinned.checked.prog Rows.sparkBornUptoRow.named (Rows.OpenSpec.upto Rows.sparkBornSpec).bare.vars=true:=by kernel_rfl
theorem XA:(Rows.sparkBornUptoRow.stops==[])=true:=by kernel_rfl
theorem XB:(Tryz.pinned.checked.prog.stops==[])=true:=by kernel_rfl
theorem XC:(Rows.sparkBornUptoRow.knobs==[])=true:=by kernel_rfl
theorem XD:(Tryz.pinned.checked.prog.stopKnobs==[])=true:=by kernel_rfl
theorem Tg:(Rows.sparkBornUptoRow.inPlace==Tryz.pinned.checked.prog.inPlace 4)=true:=by kernel_rfl
theorem Ti:(Rows.sparkBornUptoRow.unfollowed==Tryz.pinned.checked.prog.unfollowed 4)=true:=by kernel_rfl
theorem Tj:(Rows.sparkBornUptoRow.recurses==Tryz.pinned.checked.prog.recurses 4)=true:=by kernel_rfl
theorem Tk:(Rows.sparkBornUptoRow.named==Tryz.pinned.checked.prog.varsNamed 4)=true:=by kernel_rfl
theorem Tm:(Rows.sparkBornUptoRow.maps==(Tryz.f4.params.toList++(Rows.OpenSpec.upto Rows.sparkBornSpec).bare.plain.varTypes Tryz.pinned.checked.prog).any (Tryz.pinned.checked.prog.mapsRec ·))=true:=by kernel_rfl
theorem Tn:(Rows.sparkBornUptoRow.ifaces==(Tryz.f4.params.toList++(Rows.OpenSpec.upto Rows.sparkBornSpec).bare.plain.varTypes Tryz.pinned.checked.prog).any (Tryz.pinned.checked.prog.ifacesRec ·))=true:=by kernel_rfl
theorem Tp:(Rows.sparkBornUptoRow.mapsOut==Tryz.pinned.checked.prog.mapsAmong Tryz.f4.resultTypes.toList)=true:=by kernel_rfl
theorem Tq:(Rows.sparkBornUptoRow.loops==(Tryz.f4.params.toList++(Rows.OpenSpec.upto Rows.sparkBornSpec).bare.plain.varTypes Tryz.pinned.checked.prog).any (Tryz.pinned.checked.prog.loopsFrom ·))=true:=by kernel_rfl
theorem Tt:(Rows.sparkBornUptoRow.wideKeys==(Tryz.f4.params.toList++(Rows.OpenSpec.upto Rows.sparkBornSpec).bare.plain.varTypes Tryz.pinned.checked.prog++Tryz.f4.resultTypes.toList).any (Tryz.pinned.checked.prog.wideKeysFrom ·))=true:=by kernel_rfl
theorem Tv:(Rows.OpenSpec.upto Rows.sparkBornSpec).bare.vars.all (Tryz.pinned.checked.prog.varReadable ·)=true:=by kernel_rfl
theorem Tw:Tryz.f4.resultTypes.all (fun t=>Tryz.pinned.checked.prog.readableRec t&&decide (t<Tryz.pinned.checked.prog.types.size))=true:=by kernel_rfl
theorem Tx:(Rows.sparkBornUptoRow.ifacesOut==Tryz.f4.resultTypes.toList.any (Tryz.pinned.checked.prog.ifacesRec ·))=true:=by kernel_rfl
theorem Ty:(Rows.sparkBornUptoRow.loopsOut==Tryz.f4.resultTypes.toList.any (Tryz.pinned.checked.prog.loopsFrom ·))=true:=by kernel_rfl
theorem Tz:(Rows.sparkBornUptoRow.plainKeys==Tryz.pinned.checked.prog.plainKeys)=true:=by kernel_rfl
theorem TD:Rows.sparkBornUptoRow.shortTexts.isNone=true:=by kernel_rfl
theorem TF:Tryz.pinned.checked.prog.stopsHeard=true:=by kernel_rfl
theorem TG:Tryz.pinned.checked.prog.mayEnter=true:=by kernel_rfl
theorem TH:(Rows.sparkBornUptoRow.lifted==Tryz.pinned.checked.prog.liftsFinal)=true:=by kernel_rfl
theorem TI:(Tryz.pinned.checked.prog.make==some Rows.sparkBornUptoRow.make)=true:=by kernel_rfl
theorem TJ:(Rows.sparkBornUptoRow.kinds==(if Rows.sparkBornUptoRow.domain.isEmpty then[]else Tryz.f4.params.toList.map fun t=>match Tryz.pinned.checked.prog.underlying t with|some (.int k)=>some k|_=>none))=true:=by kernel_rfl
theorem TL:(Rows.sparkBornUptoRow.pinned==Rows.sparkBornUptoRow.pinnedBy)=true:=by kernel_rfl
theorem TM:(Rows.sparkBornUptoRow.veiled==(Tryz.f4.params.toList++(Rows.OpenSpec.upto Rows.sparkBornSpec).bare.plain.varTypes Tryz.pinned.checked.prog++Tryz.f4.resultTypes.toList).any (Tryz.pinned.checked.prog.veiledRec ·))=true:=by kernel_rfl
theorem TN:Rows.sparkBornUptoRow.veiledFits Tryz.pinned.checked.prog Tryz.f4.params.toList (Tryz.f4.params.toList++(Rows.OpenSpec.upto Rows.sparkBornSpec).bare.plain.varTypes Tryz.pinned.checked.prog++Tryz.f4.resultTypes.toList)=true:=by kernel_rfl
theorem FY:joinedFacts Tryz.pinned.checked.prog 4 Tryz.f4 (Rows.OpenSpec.upto Rows.sparkBornSpec).bare Rows.sparkBornUptoRow=true:=qp Xv Xw Xx Xy Xz XA XB XC XD Tg Ti Tj Tk Tm Tn Tp Tq Tt Tv Tw Tx Ty Tz TD TF TG TH TI TJ TL TM TN
end Go.Proofs.YtedcakchekaemaaGreatDoor
