/- SparkAlone is true for every list of messages and of times, within the bounds of the Upto form of the statement. -/
import Derived.Test.YtedcakchekaemaaGreatDoorMp41
import Derived.Test.YtedcakchekaemaaGreatDoorMp42
import Derived.ShutString
set_option maxRecDepth 100000
set_option maxHeartbeats 16000000
set_option linter.all false
namespace Go.Proofs.YtedcakchekaemaaGreatDoor.lawSparkAlone
open Go.Proofs.YtedcakchekaemaaGreatDoor
open Go.ChangeShapes Go.WideShapes Go.ChangeAt Go.RowKit Go.WideMaps Go.WideElems
open Go.ChangeMaps (open_string shut_string)
open Go
theorem own:ownKnob Tryz.prog.godebug=none:=by kernel_rfl
theorem qw:laidOutB Tryz.prog=true:=by kernel_rfl
theorem reads(os:Os){H:Type}(enc:TypeId×Value->H): ∃places,DataW.whole enc Tryz.prog ((jN os).forCall (fun _ _=>0) ⟨#[],#[.slice none 0 0,.slice none 0 0],[]⟩).memory Tryz.f5.params.toList Rows.sparkAloneSpec.vars false (#[.slice none 0 0,.slice none 0 0]:Array Value).toList 8=some ([.nil,.nil],[],places):=
 ⟨[],by kernel_rfl⟩
theorem lifted(os:Os)(started:os.Started)(H:Type)(enc:TypeId×Value->H)(F:Stop.Interp):
  ReturnsInHanded {} Tryz.checked os 5 .any ((Rows.OpenSpec.upto Rows.sparkAloneSpec).preRow enc Tryz.prog Tryz.f5 Rows.sparkAloneUptoRow.domain false Rows.sparkAloneUptoRow.laid) (((Rows.OpenSpec.upto Rows.sparkAloneSpec).at F).post enc Tryz.prog Tryz.f5 false true false false):=by
 obtain⟨places,hx⟩:=reads os enc;refine returnsInHanded_of_row (C:=Tryz.checked) (s:=(Rows.OpenSpec.upto Rows.sparkAloneSpec)) own started (by kernel_rfl) Tryz.func5
  (witness_row_atRef (enc:=enc) (C:=Tryz.checked) false (jN os) #[.slice none 0 0,.slice none 0 0] rfl (by kernel_rfl) (by kernel_rfl) (by kernel_rfl)
   (OpenSpec.preRow_of_cond 8 hx (by kernel_rfl) (fun k hk=>by cases hk;kernel_rfl) (by kernel_rfl) (yQ os _))) ?_
 intro W base args ds gs before hval0 hW hcnd hk0 hsz0 hL U4 _;have tabs:=zT hL U4;have Gv:Rows.uptoBulkAll (ds++gs)<=1048576:=of_decide_eq_true (hk0 _ rfl);have hval: ∀(j:Nat) t v,Tryz.f5.params[j]?=some t->args[j]?=some v->Value.okWide Tryz.prog W .any base t v:=hval0;have hW':=hW;obtain⟨p,q,um,hV,rfl,hfz,hnd⟩:=hW;have hA:DataW.TrodAll enc Tryz.prog W 0 (fun _=>true) true Tryz.f5.params.toList args.toList ds p:=um;have hsz:=hsz0;rw[Tryz.params5]at hA hval hsz;obtain⟨v0,vs0,d0,ds0,p0,q0,hargs,rfl,rfl,h0,r0⟩:=trodAll_cons hA;obtain⟨v1,vs1,d1,ds1,p1,q1,rfl,rfl,rfl,h1,r1⟩:=trodAll_cons r0;obtain⟨rfl,rfl,rfl⟩:=trodAll_nil r1;obtain rfl:args=#[v0,v1]:=by cases args;simp_all
 obtain⟨rfl,rfl⟩:=trodVars_none hV;obtain⟨a0,uQ,cap0,rfl⟩:=okWide_slice Tryz.underlying22 (hval 0 22 v0 rfl rfl);have k0:=h0;have lt0: ∀x∈p0,x.block<W.heap.size:=by obtain⟨m,hm⟩:=k0;exact DataW.trod_lt m _ _ _ hm
 obtain⟨fu0,hf0⟩:=h0;obtain⟨z0,w0,u0⟩:=uM hf0 (Nat.le_trans (BV.part_le (by simp)) Gv);obtain⟨a1,U5,abe,rfl⟩:=okWide_slice Tryz.underlying27 (hval 1 27 v1 rfl rfl);have k1:=h1;have lt1: ∀x∈p1,x.block<W.heap.size:=by obtain⟨m,hm⟩:=k1;exact DataW.trod_lt m _ _ _ hm
 obtain⟨z1,w1⟩: ∃zs,qX .i64 W a1 U5 zs:=by
  obtain⟨fuel,hf⟩:=h1;rcases open_ints Tryz.underlying27 Tryz.underlying3 (by kernel_rfl) hf with⟨hcs,_⟩|⟨x,l,c,zs,hcs,_,hl,hm,hz,_,hcell,hwz⟩
  ·simp[Value.cells]at hcs
   obtain⟨rfl,rfl,rfl⟩:=hcs;exact⟨fun _=>0,yP _ _ _ _⟩
  ·simp[Value.cells]at hcs
   obtain⟨rfl,rfl,rfl⟩:=hcs;exact⟨_,AP hl hm (by simpa using hz) hcell hwz⟩
 clear um hval0;refine(Ov a0 uQ cap0 z0 a1 U5 abe z1 W w0 u0 w1 tabs).mono fun e W' ⟨he,Vh⟩=>?_
 subst he;exact⟨_,rfl,_,_,_,[],_,[],hW',trodAll_mk1 (shut_bool Tryz.underlying4 _),(trodAll_cons_mk (Below.trod qw (by kernel_rfl) (of_decide_eq_true (by kernel_rfl)) k0 Vh lt0) (trodAll_cons_mk (Below.trod qw (by kernel_rfl) (of_decide_eq_true (by kernel_rfl)) k1 Vh lt1) trodAll_mk0)),rfl,Vh.frame _,fun h=>by cases h⟩
theorem SS:Rows.SparkAloneUptoSaid:=
 OpenClaim.holds_of_cond 5 Tryz.f5 rfl rfl rfl rfl rfl rfl rfl ⟨rfl,rfl,rfl,rfl,rfl⟩ rfl rfl rfl rfl rfl (by kernel_rfl) Tryz.func5 F9
  (of_decide_eq_true (by kernel_rfl)) (by unfold Func.isWrapper;first|(rw[if_pos (by decide+kernel)];kernel_rfl)|(rw[if_neg (by decide+kernel)];exact⟨rfl,rfl⟩))
  (fun os started H enc _ F=>by rw[OpenClaim.pre_eq_preRow];exact lifted os started H enc F)
theorem o8(f:FuncId)(fn:Func)(hf:Tryz.pinned.checked.prog.funcNamed "crier/crierlaw37.SparkAlone" =some f)(hfn:Tryz.pinned.checked.prog.funcs[f]?=some fn):
  true=Tryz.pinned.checked.prog.looks []/\ ∀(j:Nat) t,fn.params[j]?=some t->Tryz.pinned.checked.prog.wantsStandIn t=false:=by
 obtain rfl:f=5:=Option.some.inj ((show Tryz.prog.funcNamed "crier/crierlaw37.SparkAlone" =some 5 by kernel_rfl).symm.trans hf) |>.symm;obtain rfl:fn=Tryz.f5:=(Option.some.inj (Tryz.func5.symm.trans hfn)).symm;refine⟨by kernel_rfl,fun j t ht=>?_⟩;rw[Tryz.params5]at ht;have hm:=Array.mem_of_getElem? ht;simp only[List.mem_toArray,List.mem_cons,List.not_mem_nil,or_false]at hm;rcases hm with rfl|rfl
 ·exact(show Tryz.prog.wantsStandIn 22=false by kernel_rfl)
 ·exact(show Tryz.prog.wantsStandIn 27=false by kernel_rfl)
theorem proved:Rows.SparkAloneUptoCardSaid:=
 Claim7.holds_tied_plain_at .later [] _ _ _ _ SS (fun _ h=>by cases h) (by kernel_rfl) (fun _ h=>by cases h) sparkAloneUpto_row_tie rfl ⟨rfl,rfl⟩ (by kernel_rfl) rfl o8 (by kernel_rfl)
#print axioms proved
end Go.Proofs.YtedcakchekaemaaGreatDoor.lawSparkAlone
