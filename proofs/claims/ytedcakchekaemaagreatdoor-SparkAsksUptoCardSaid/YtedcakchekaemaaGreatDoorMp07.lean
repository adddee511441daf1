/- Contracts of the program, part 7. -/
import Derived.Test.YtedcakchekaemaaGreatDoorMp04
import Derived.Test.YtedcakchekaemaaGreatDoorMp06
set_option maxRecDepth 100000
set_option maxHeartbeats 16000000
set_option linter.all false
namespace Go.Proofs.YtedcakchekaemaaGreatDoor
open Go.RowKit
variable [Kd]
def iL(x:Int):List Value:=[.int .i64 x]
theorem QE(x:Int):(iL x).length=1:=rfl
theorem abR:(Tryz.prog.info? 3).map (fun i=>(i.zero,i.size,i.bytes))=some (some (.int .i64 0),1,8):=by kernel_rfl
theorem QF:jG Tryz.prog 27 3 iL 1 8 where
 ut:=Tryz.underlying27
 info:=by obtain⟨i,h1,h2,h3,h4⟩:=info_parts abR;exact⟨i,_,h1,h2,h3,h4,rfl⟩
 pos:=by omega
 len:=fun _=>rfl
 one x u hu:=by simp only[iL,List.mem_cons,List.not_mem_nil,or_false]at hu;subst hu;rfl
def fL(f:bN):List Value:=[.int .i64 f.num,.int .i64 f.kind,.int .u64 f.val,.string f.text]
theorem eT(f:bN):(fL f).length=4:=rfl
theorem abS:(Tryz.prog.info? 100).map (fun i=>(i.zero,i.size,i.bytes))=some (some (.agg #[.int .i64 0,.int .i64 0,.int .u64 0,.string ⟨#[]⟩]),4,40):=by kernel_rfl
theorem Be:jG Tryz.prog 96 100 fL 4 40 where
 ut:=Tryz.underlying96
 info:=by obtain⟨i,h1,h2,h3,h4⟩:=info_parts abS;exact⟨i,_,h1,h2,h3,h4,rfl⟩
 pos:=by omega
 len:=fun _=>rfl
 one x u hu:=by simp only[fL,List.mem_cons,List.not_mem_nil,or_false]at hu;rcases hu with rfl|rfl|rfl|rfl<;>rfl
theorem Sl.cut{α:Type}{enc:α->List Value}{k:Nat}{P:Program}{T t:TypeId}{base bytes:Nat}{w:World}{v:Value}{l:List α}(h:Sl T enc k base w v l)(E:jG P t T enc k bytes){i:Nat}(hi:i<=l.length):
  ∃v1,(∀W,(Instr.sliceAt t v none (some (.int .i64 i)) none).run P W=.ok v1 W)/\Sl T enc k base w v1 (l.take i)/\v1.ownBlock=v.ownBlock:=by
 obtain⟨inf,z,Dk,_,hsz,_,_⟩:=E.info;have hs: ∀W,(sizeOf T).run P W=.ok k W:=fun W=>by simp[sizeOf,typeInfo,Dk,hsz]
 have hi0:(0:Int)<=i:=by omega
 rcases h.form with⟨rfl,rfl⟩|⟨g,cap,rfl,hb,hR⟩
 ·obtain rfl:i=0:=by simpa using hi
  refine⟨.slice none 0 0,fun W=>?_,Sl.nil _ _ _,rfl⟩;simp[Instr.sliceAt,Instr.slice,run_underlying E.ut,Instr.sliceBounds,run_sliceBound,hs,Result.andThen]
 ·obtain⟨cur,h0,h1,h2,h3,h4⟩:=hR
  have hle:i*k<=l.length*k:=Nat.mul_le_mul_right _ hi;have hrow:si T enc k w g cap (l.take i):=by
   refine⟨cur,h0,by rw[List.length_take];omega,h2,h3,?_⟩;rw[List.length_take_of_le hi];have e:(cur.toList.take (l.length*k)).take (i*k)=(aI enc l).take (i*k):=by rw[h4]
   rw[List.take_take,Nat.min_eq_left hle]at e;rw[e]
   conv=>lhs;rw[<-List.take_append_drop i l,bV]
   rw[List.take_append_of_le_length (by rw[bq E.len,List.length_take_of_le hi];exact Nat.le_refl _),List.take_of_length_le (by rw[bq E.len,List.length_take_of_le hi];exact Nat.le_refl _)]
  have hS:=Sl.of_row hrow E.len hb;rw[List.length_take_of_le hi]at hS;refine⟨.slice (some ⟨g,0,none⟩) i cap,fun W=>?_,hS,rfl⟩;have h2:(i:Int)<=cap:=by omega
  simp[Instr.sliceAt,Instr.slice,run_underlying E.ut,Instr.sliceBounds,run_sliceBound,hs,Result.andThen,hi0,h2,Addr.add]
structure uT (W0 w:World) (r:Nat) (v gG aY:Value) (s:vF):Prop where
 own:ai [] W0 w
 blk:w.heap[r]?=some (.cells (fq v s.at' gG aY) 339 (0,0))
 base:W0.heap.size<=r
 op:Sl 3 iL 1 W0.heap.size w gG s.op
 out:Sl 100 fL 4 W0.heap.size w aY s.out
 ro: ∀g,gG.ownBlock=some g->g≠r
 rt: ∀g,aY.ownBlock=some g->g≠r
 ot: ∀g,gG.ownBlock=some g->aY.ownBlock≠some g
section
variable {W0 w w' : World} {r : Nat} {v gG aY : Value} {s : vF}
theorem uT.at'(h:uT W0 w r v gG aY s){j:Nat}(h1:w'.heap[r]?=some (.cells (fq v j gG aY) 339 (0,0)))(hO:ai [r] w w'):uT W0 w' r v gG aY ⟨j,s.op,s.out⟩:=
 ⟨h.own.trans' hO (fun x hx=>.inr (by simp at hx;subst hx;exact h.base)),h1,h.base,h.op.own hO (fun b hb=>by simpa using h.ro b hb),h.out.own hO (fun b hb=>by simpa using h.rt b hb),h.ro,h.rt,h.ot⟩
theorem uT.nil'(h:uT W0 w r v gG aY s)(hO:ai [] w w'):uT W0 w' r v gG aY s:=
 ⟨h.own.trans hO,hO.heap h.blk (by simp),h.base,h.op.nil' hO,h.out.nil' hO,h.ro,h.rt,h.ot⟩
theorem uT.opened(h:uT W0 w r v gG aY s){w1:World}{v':Value}{l:List Int}(h1:Sl 3 iL 1 W0.heap.size w1 v' l)(h2:ai gG.ownBlock.toList w w1)(h3: ∀g,v'.ownBlock=some g->gG.ownBlock=some g\/w.heap.size<=g):
  (w1.cell? ⟨r,2,none⟩=some gG/\w1.frozen? ⟨r,2,none⟩=false)/\uT W0 (w1.setCell ⟨r,2,none⟩ v') r v v' aY ⟨s.at',l,s.out⟩:=by
 have hro:r∉gG.ownBlock.toList:=fun hx=>by
  cases hb:gG.ownBlock with
  |none=>rw[hb]at hx;simp at hx
  |some g=>rw[hb]at hx;simp at hx;exact h.ro g hb hx.symm
 have hb1:=h2.heap h.blk hro;have hrl:=aj h.blk;have hsz:=h2.size;have hO2:ai [r] w1 (w1.setCell ⟨r,2,none⟩ v'):=(ai.refl _ _).setCell (.inl (by simp)) _;have iE:ai [] W0 w1:=h.own.trans' h2 (fun x hx=>.inr (by
  cases hb:gG.ownBlock with
  |none=>rw[hb]at hx;simp at hx
  |some g=>rw[hb]at hx;simp at hx;subst hx;exact(h.op.block hb).1))
 have hnr: ∀g,v'.ownBlock=some g->g≠r:=fun g hg=>by
  rcases h3 g hg with h4|h4
  ·exact h.ro g h4
  ·omega
 have hout1:Sl 100 fL 4 W0.heap.size w1 aY s.out:=h.out.own h2 (fun b hb hx=>by
  cases hv:gG.ownBlock with
  |none=>rw[hv]at hx;simp at hx
  |some g=>rw[hv]at hx;simp at hx;subst hx;exact h.ot _ hv hb)
 refine⟨⟨by rw[cell_of_row _ _ _ _ _ _ hb1];rfl,frozen_of_row _ r 2 _ _ hb1⟩,iE.trans' hO2 (fun x hx=>.inr (by simp at hx;subst hx;exact h.base)),?_,h.base,h1.own hO2 (fun b hb=>by simpa using hnr b hb),hout1.own hO2 (fun b hb=>by simpa using h.rt b hb),hnr,h.rt,fun g hg hx=>?_⟩
 ·have:=heap_setCell_same _ r 2 _ _ v' hb1
  simpa[fq]using this
 ·rcases h3 g hg with h4|h4
  ·exact h.ot g h4 hx
  ·have:=(h.out.block hx).2;omega
theorem uT.took(h:uT W0 w r v gG aY s){w1:World}{v':Value}{l:List bN}(h1:Sl 100 fL 4 W0.heap.size w1 v' l)(h2:ai aY.ownBlock.toList w w1)(h3: ∀g,v'.ownBlock=some g->aY.ownBlock=some g\/w.heap.size<=g):
  (w1.cell? ⟨r,3,none⟩=some aY/\w1.frozen? ⟨r,3,none⟩=false)/\uT W0 (w1.setCell ⟨r,3,none⟩ v') r v gG v' ⟨s.at',s.op,l⟩:=by
 have hro:r∉aY.ownBlock.toList:=fun hx=>by
  cases hb:aY.ownBlock with
  |none=>rw[hb]at hx;simp at hx
  |some g=>rw[hb]at hx;simp at hx;exact h.rt g hb hx.symm
 have hb1:=h2.heap h.blk hro;have hrl:=aj h.blk;have hsz:=h2.size;have hO2:ai [r] w1 (w1.setCell ⟨r,3,none⟩ v'):=(ai.refl _ _).setCell (.inl (by simp)) _;have iE:ai [] W0 w1:=h.own.trans' h2 (fun x hx=>.inr (by
  cases hb:aY.ownBlock with
  |none=>rw[hb]at hx;simp at hx
  |some g=>rw[hb]at hx;simp at hx;subst hx;exact(h.out.block hb).1))
 have hnr: ∀g,v'.ownBlock=some g->g≠r:=fun g hg=>by
  rcases h3 g hg with h4|h4
  ·exact h.rt g h4
  ·omega
 have hop1:Sl 3 iL 1 W0.heap.size w1 gG s.op:=h.op.own h2 (fun b hb hx=>by
  cases hv:aY.ownBlock with
  |none=>rw[hv]at hx;simp at hx
  |some g=>rw[hv]at hx;simp at hx;subst hx;exact h.ot _ hb hv)
 refine⟨⟨by rw[cell_of_row _ _ _ _ _ _ hb1];rfl,frozen_of_row _ r 3 _ _ hb1⟩,iE.trans' hO2 (fun x hx=>.inr (by simp at hx;subst hx;exact h.base)),?_,h.base,hop1.own hO2 (fun b hb=>by simpa using h.ro b hb),h1.own hO2 (fun b hb=>by simpa using hnr b hb),h.ro,hnr,fun g hg hx=>?_⟩
 ·have:=heap_setCell_same _ r 3 _ _ v' hb1
  simpa[fq]using this
 ·rcases h3 g hx with h4|h4
  ·exact h.ot g hg h4
  ·have:=(h.op.block hg).2;omega
end
def dh(t:Option vF)(W0:World)(r:Nat)(v:Value)(e:Ending)(w':World):Prop:=
 match t with
 |some s'=>e=.returned (.int .i64 0)/\ ∃OG BS,uT W0 w' r v OG BS s'
 |none=>(∃ec:Int,ec≠0/\e=.returned (.int .i64 ec))/\ai [] W0 w'
theorem Ie(W0 w:World)(r:Nat)(v gG aY:Value)(s:vF)(num:Int)(h:uT W0 w r v gG aY s):
  Calls Tryz.prog 254 #[.pointer (some ⟨r,0,none⟩),.int .i64 num] w (dh (if 8<=s.op.length then none else some ⟨s.at',s.op++[num],s.out⟩) W0 r v):=by
 obtain⟨⟨c0,c1,c2,c3⟩,hf⟩:=QA h.blk;have f2:=hf 2;obtain⟨oa,oc,rfl⟩:=h.op.sl;unfold dh;by_cases h8:8<=s.op.length
 ·rw[if_pos h8]
  have hO:=af h.own;have h8':(8:Int)<=s.op.length:=by omega
  clear h hf;generalize s.op.length=n at*;go_enter Tryz.func254,Tryz.ntmps254
  go_wp2_with fail
  go_ret
  exact⟨⟨12,by decide,rfl⟩,hO.out⟩
 ·rw[if_neg h8]
  have h8': ¬(8:Int)<=s.op.length:=by omega
  have hA:=h.nil' ((ai.refl [] w).alloc (.cells #[.int .i64 num] 3));have hRb:=af (aG.new (enc:=iL) (T:=3) w num 1);have hlen:(s.op.length+1)*8<=140737488355328:=by omega
  have hmx:s.op.length+1<=maxLen:=by unfold maxLen;omega
  replace hA:=af hA;clear h hf h8;generalize hn:s.op.length=n at*;change Hid _ at hn;go_enter Tryz.func254,Tryz.ntmps254
  go_wp2_with(at_builtin;refine aT rfl (.tmp 15) (.tmp 17) rfl QF hA.out.own rfl hA.out.op rfl hRb.out (by rw[hn.out];exact hlen) (by rw[hn.out];exact hmx) ?_;intro v' w1 hS1 aL _ hg1 hv1;obtain⟨a2,k2,rfl⟩:=hS1.sl;obtain⟨⟨d2,f2'⟩,hR⟩:=hA.out.opened hS1 hv1 hg1;replace hR:=af hR;clear hS1 aL hg1 hv1)
  go_ret
  have hR':=hR.out;rw[show(s.op++[num]).length=s.op.length+1 by simp]at hR';exact⟨rfl,_,_,hR'⟩
theorem QG{l:List Int}(h:0<l.length):l.getLast?=l[l.length-1]?:=List.getLast?_eq_getElem?
theorem QI(W0 w:World)(r:Nat)(v gG aY:Value)(s:vF)(num:Int)(h:uT W0 w r v gG aY s)(h8:s.op.length<=8):
  Calls Tryz.prog 255 #[.pointer (some ⟨r,0,none⟩),.int .i64 num] w (dh (if s.op.getLast?=some num then some ⟨s.at',s.op.dropLast,s.out⟩else none) W0 r v):=by
 obtain⟨⟨c0,c1,c2,c3⟩,hf⟩:=QA h.blk;have f2:=hf 2;obtain⟨oa,oc,rfl⟩:=h.op.sl;unfold dh;by_cases h0:s.op.length=0
 ·have he:s.op.getLast?=none:=by rw[List.eq_nil_of_length_eq_zero h0];rfl
  rw[he,if_neg (by simp)];have hO:=af h.own;rw[h0]at c2;clear h hf h0 he h8;go_enter Tryz.func255,Tryz.ntmps255
  go_wp2_with fail
  go_ret
  exact⟨⟨4,by decide,rfl⟩,hO.out⟩
 ·obtain⟨q,hq⟩: ∃q,s.op[s.op.length-1]?=some q:=⟨_,List.getElem?_eq_getElem (by omega)⟩
  obtain⟨bb,oo,hab,hx⟩:=(h.op.reads QE).at_ QE (by omega);have e:=hx (s.op.length-1) q 0 _ hq rfl;simp only[Nat.mul_one,Nat.add_zero]at e;rw[QG (by omega),hq];have hw:IntKind.wrap .i64 ((s.op.length:Int)-1)=((s.op.length-1:Nat):Int):=by rw[IntKind.wrap_i64];omega
  have hn1:s.op.length-1<s.op.length:=by omega
  subst hab;by_cases hqn:q=num
  ·subst hqn
   rw[if_pos rfl];obtain⟨v1,hs,hS1,hb1⟩:=h.op.cut QF (i:=s.op.length-1) (by omega);rw[<-List.dropLast_eq_take]at hS1;obtain⟨a1,k1,rfl⟩:=hS1.sl;have hR:=af (h.opened hS1 ((ai.refl _ w)) (fun g hg=>.inl (hb1▸hg))).2;have La:(q !=q)=false:=by simp
   clear h hf h0 hx hq h8 hS1 hb1;generalize hm:s.op.length-1=m at*;generalize s.op.length=n at*;change Hid _ at hm;go_enter Tryz.func255,Tryz.ntmps255
   go_wp2_with fail
   go_ret
   have hR':=hR.out;rw[List.length_dropLast]at hR';exact⟨rfl,_,_,hR'⟩
  ·rw[if_neg (by simpa using hqn)]
   have hO:=af h.own;have La:(q !=num)=true:=by simpa using hqn
   clear h hf h0 hx hq h8 hqn;generalize hm:s.op.length-1=m at*;generalize s.op.length=n at*;change Hid _ at hm;go_enter Tryz.func255,Tryz.ntmps255
   go_wp2_with fail
   go_ret
   exact⟨⟨4,by decide,rfl⟩,hO.out⟩
end Go.Proofs.YtedcakchekaemaaGreatDoor
namespace Go.Proofs.YtedcakchekaemaaGreatDoor
open Go.RowKit
variable [Kd]
section
variable {W0 w w' : World} {r : Nat} {v gG aY : Value} {s : vF}
theorem uT.other(h:uT W0 w r v gG aY s){S:List Nat}(hO:ai S w w')(hr:r∉S)(ho: ∀g,gG.ownBlock=some g->g∉S)(ht: ∀g,aY.ownBlock=some g->g∉S)(hb: ∀x∈S,W0.heap.size<=x):uT W0 w' r v gG aY s:=
 ⟨h.own.trans' hO (fun x hx=>.inr (hb x hx)),hO.heap h.blk hr,h.base,h.op.own hO ho,h.out.own hO ht,h.ro,h.rt,h.ot⟩
structure Ig (W0 w:World) (r fb:Nat) (v gG aY:Value) (s:vF) (f:bN):Prop where
 rd:uT W0 w r v gG aY s
 row:w.heap[fb]?=some (.cells (fL f).toArray 100 (0,0))
 nr:fb≠r
 no: ∀g,gG.ownBlock=some g->g≠fb
 nt: ∀g,aY.ownBlock=some g->g≠fb
 ba:W0.heap.size<=fb
theorem uT.field(h:uT W0 w r v gG aY s)(num kind:Int):Ig W0 (w.alloc (.cells #[.int .i64 num,.int .i64 kind,.int .u64 0,.string ⟨#[]⟩] 100)) r w.heap.size v gG aY s ⟨num,kind,0,⟨#[]⟩⟩:=
 ⟨h.nil' ((ai.refl _ _).alloc _),heap_alloc_new _ _,fun e=>by have:=aj h.blk;omega,fun g hg=>by have:=(h.op.block hg).2;omega,fun g hg=>by have:=(h.out.block hg).2;omega,h.own.size⟩
theorem Ig.at'{fb:Nat}{f:bN}(h:Ig W0 w r fb v gG aY s f){j:Nat}(h1:w'.heap[r]?=some (.cells (fq v j gG aY) 339 (0,0)))(hO:ai [r] w w'):Ig W0 w' r fb v gG aY ⟨j,s.op,s.out⟩ f:=
 ⟨h.rd.at' h1 hO,hO.heap h.row (by simpa using h.nr),h.nr,h.no,h.nt,h.ba⟩
theorem Ig.cells{fb:Nat}{f:bN}(h:Ig W0 w r fb v gG aY s f):(w.cell? ⟨fb,0,none⟩=some (.int .i64 f.num)/\w.cell? ⟨fb,1,none⟩=some (.int .i64 f.kind)/\w.cell? ⟨fb,2,none⟩=some (.int .u64 f.val)/\w.cell? ⟨fb,3,none⟩=some (.string f.text))/\(∀j,w.frozen? ⟨fb,j,none⟩=false)/\
  (w.cell? ⟨r,2,none⟩=some gG/\w.cell? ⟨r,3,none⟩=some aY/\ ∀j,w.frozen? ⟨r,j,none⟩=false):=by
 obtain⟨⟨_,_,c2,c3⟩,hf⟩:=QA h.rd.blk;exact⟨⟨by rw[cell_of_row _ _ _ _ _ _ h.row];rfl,by rw[cell_of_row _ _ _ _ _ _ h.row];rfl,by rw[cell_of_row _ _ _ _ _ _ h.row];rfl,by rw[cell_of_row _ _ _ _ _ _ h.row];rfl⟩,fun j=>frozen_of_row _ _ j _ _ h.row,c2,c3,hf⟩
theorem Ig.nil'{fb:Nat}{f:bN}(h:Ig W0 w r fb v gG aY s f)(hO:ai [] w w'):Ig W0 w' r fb v gG aY s f:=
 ⟨h.rd.nil' hO,hO.heap h.row (by simp),h.nr,h.no,h.nt,h.ba⟩
theorem Ig.setVal{fb:Nat}{f:bN}(h:Ig W0 w r fb v gG aY s f)(x:Int):Ig W0 (w.setCell ⟨fb,2,none⟩ (.int .u64 x)) r fb v gG aY s {f with val:=x}:=by
 have hO:ai [fb] w (w.setCell ⟨fb,2,none⟩ (.int .u64 x)):=(ai.refl _ _).setCell (.inl (by simp)) _;refine⟨h.rd.other hO (by simpa using h.nr.symm) (fun g hg=>by simpa using h.no g hg) (fun g hg=>by simpa using h.nt g hg) (fun y hy=>by simp at hy;subst hy;exact h.ba),?_,h.nr,h.no,h.nt,h.ba⟩;have:=heap_setCell_same _ fb 2 _ _ (.int .u64 x) h.row;simpa[fL]using this
theorem Ig.setText{fb:Nat}{f:bN}(h:Ig W0 w r fb v gG aY s f)(x:ByteArray):Ig W0 (w.setCell ⟨fb,3,none⟩ (.string x)) r fb v gG aY s {f with text:=x}:=by
 have hO:ai [fb] w (w.setCell ⟨fb,3,none⟩ (.string x)):=(ai.refl _ _).setCell (.inl (by simp)) _;refine⟨h.rd.other hO (by simpa using h.nr.symm) (fun g hg=>by simpa using h.no g hg) (fun g hg=>by simpa using h.nt g hg) (fun y hy=>by simp at hy;subst hy;exact h.ba),?_,h.nr,h.no,h.nt,h.ba⟩;have:=heap_setCell_same _ fb 3 _ _ (.string x) h.row;simpa[fL]using this
end
theorem Zw(B:List Int)(i:Nat)(num:Int):uG B i num 0=(oH B i).map fun p=>(⟨num,0,p.1,⟨#[]⟩⟩,p.2):=by simp[uG]
theorem Zx(B:List Int)(i:Nat)(num:Int):uG B i num 1=(wM 8 B i).map fun p=>(⟨num,1,p.1,⟨#[]⟩⟩,p.2):=by simp[uG]
theorem Zy(B:List Int)(i:Nat)(num:Int):uG B i num 5=(wM 4 B i).map fun p=>(⟨num,5,p.1,⟨#[]⟩⟩,p.2):=by simp[uG]
theorem Zz(B:List Int)(i:Nat)(num:Int):uG B i num 2=(QB B i).map fun p=>(⟨num,2,0,p.1⟩,p.2):=by
 unfold uG QB;rw[if_neg (by decide),if_pos rfl];cases oH B i with
 |none=>rfl
 |some p=>
  simp only[Option.bind_some];split<;>rfl
end Go.Proofs.YtedcakchekaemaaGreatDoor
namespace Go.Proofs.YtedcakchekaemaaGreatDoor
open Go.RowKit
variable [Kd]
theorem Ik(W0 w:World)(r:Nat)(v gG aY:Value)(B:List Int)(s:vF)(num:Int)(h:uT W0 w r v gG aY s)(hR:aG bL W0 v B)(hrb: ∀b,v.ownBlock=some b->b<W0.heap.size)(hc:eZ v)(hB:pE B)(hl:B.length<=4096)(hi:s.at'<=B.length)(vX:s.out.length<=256):
  Calls Tryz.prog 256 #[.pointer (some ⟨r,0,none⟩),.int .i64 num,.int .i64 2] w (dh (jf B s num 2) W0 r v):=by
 have hF:=h.field num 2;have uU:=hR.nil' hF.rd.own;have xY: ∀b,v.ownBlock=some b->b≠r:=fun b hb=>by have:=hrb b hb;have:=h.base;omega
 obtain⟨oa,oc,rfl⟩:=h.op.sl;obtain⟨ta,tc,rfl⟩:=h.out.sl;have cN:=Mi r v _ _ B s.at' _ hF.rd.blk uU xY hc hB hl hi;unfold Cr at cN;unfold dh jf;rw[Zz];have hnr:=hF.nr;cases hv:QB B s.at' with
 |none=>
  rw[hv]at cN;simp only[Option.map_none,Option.bind_none];have iE:=af hF.rd.own;have hb0:=af hF.rd.base;have hrow:=af hF.row;have hlw:=af h.own.size;replace cN:=af cN;clear hv h hF hR uU hrb xY hc hB;go_enter Tryz.func256,Tryz.ntmps256
  go_wp2_with fail
  refine cN.out.mono ?_;rintro e w1 ⟨⟨ec,aD,rfl⟩,hO⟩;have h1:(ec !=0)=true:=by simpa using aD
  have aL:=af (iE.out.trans' hO (fun x hx=>.inr (by simp at hx;try(subst hx;exact hb0.out))));have hr1:=hO.heap hrow.out (by simp[hnr]);have g3:=cell_of_row _ w.heap.size 3 _ _ _ hr1;have z3:=frozen_of_row _ w.heap.size 3 _ _ hr1;have hO2:=af (aL.out.setCell (p:=⟨w.heap.size,3,none⟩) (.inr (by have:=iE.out.size;simp at this⊢;exact hlw.out)) (.string ⟨#[]⟩));change Hid _ at aD;clear hO hr1;go_wp2_with fail
  go_ret
  exact⟨⟨ec,aD.out,rfl⟩,hO2.out⟩
 |some p=>
  obtain⟨x,j⟩:=p;rw[hv]at cN;simp only[Option.map_some,Option.bind_some];replace cN:=af cN;replace hF:=af hF;clear hv h hR uU hrb xY hc hB;by_cases ho:0<s.op.length
  ·rw[if_pos ho]
   have ho':(0:Int)<s.op.length:=by omega
   go_enter Tryz.func256,Tryz.ntmps256
   go_wp2_with fail
   refine cN.out.mono ?_;rintro e w1 ⟨rfl,h1,hO⟩;have hF1:=hF.out.at' h1 hO;obtain⟨⟨g0,g1,g2,g3⟩,hz,k2,k3,hz2⟩:=hF1.cells;have z3:=hz 3;have hF2:=hF1.setText x;obtain⟨_,_,m2,m3,_⟩:=hF2.cells;replace hF2:=af hF2;clear hF1 h1 hO hz hz2 hF;go_wp2_with fail
   go_ret
   exact⟨rfl,_,_,hF2.out.rd⟩
  ·rw[if_neg ho]
   have ho': ¬(0:Int)<s.op.length:=by omega
   by_cases hfu:256<=s.out.length
   ·rw[if_pos hfu]
    have JW:(256:Int)<=s.out.length:=by omega
    go_enter Tryz.func256,Tryz.ntmps256
    go_wp2_with fail
    refine cN.out.mono ?_;rintro e w1 ⟨rfl,h1,hO⟩;have hF1:=hF.out.at' h1 hO;obtain⟨⟨g0,g1,g2,g3⟩,hz,k2,k3,hz2⟩:=hF1.cells;have z3:=hz 3;have hF2:=hF1.setText x;obtain⟨_,_,m2,m3,_⟩:=hF2.cells;replace hF2:=af hF2;clear hF1 h1 hO hz hz2 hF;go_wp2_with fail
    go_ret
    exact⟨⟨6,by decide,rfl⟩,hF2.out.rd.own⟩
   ·rw[if_neg hfu]
    have JW: ¬(256:Int)<=s.out.length:=by omega
    go_enter Tryz.func256,Tryz.ntmps256
    go_wp2_with fail
    refine cN.out.mono ?_;rintro e w1 ⟨rfl,h1,hO⟩;have hF1:=hF.out.at' h1 hO;obtain⟨⟨g0,g1,g2,g3⟩,hz,k2,k3,hz2⟩:=hF1.cells;have z3:=hz 3;have hF2:=hF1.setText x;obtain⟨_,_,m2,m3,_⟩:=hF2.cells;replace hF2:=af hF2;have hl1:=af (show(s.out.length+[(bN.mk num 2 0 x)].length)*40<=140737488355328 by simp only[List.length_singleton];omega);have hl2:=af (show s.out.length+[(bN.mk num 2 0 x)].length<=maxLen by unfold maxLen;simp only[List.length_singleton];omega);have hl3:=af (show(s.out++[(bN.mk num 2 0 x)]).length=s.out.length+1 by simp);clear hF1 h1 hO hz hz2 hF;go_wp2_with fail
    clear g0 g1 g2 g3 k2 k3 m2 m3 z3;generalize(w1.setCell ⟨w.heap.size,3,none⟩ (.string x))=w2 at*;have hD:=hF2.out.nil' ((ai.refl [] w2).drew);obtain⟨⟨p0,p1,p2,p3⟩,_,p4,p5,_⟩:=hD.cells;have hA:=hF2.out.nil' (((ai.refl [] w2).alloc (.cells (fL (bN.mk num 2 0 x)).toArray 100)).drew);obtain⟨⟨q0,q1,q2,q3⟩,_,q4,q5,_⟩:=hA.cells;have mR:=af ((aG.new (enc:=fL) (T:=100) w2 (bN.mk num 2 0 x) 1).nil' ((ai.refl [] _).drew));change Hid _ at hA;simp only[fL]at hA q0 q1 q2 q3 q4 q5 mR;clear hD;go_region_law((go_loud(refine eX rfl (.tmp 62) (.tmp 64) (by rfl) Be hA.out.rd.own (by rfl) hA.out.rd.out (by rfl) mR.out hl1.out hl2.out ?_);intro va w5 hS5 hqq hg5 iD;obtain⟨a5,c5,rfl⟩:=hS5.sl;rw[hl3.out]at hS5 hg5⊢;obtain⟨⟨kC,f5⟩,pF⟩:=hA.out.rd.took hS5 iD hg5;replace pF:=af pF;clear hS5 hg5 iD hqq))
    all_goals
     go_wp2_with fail
     go_ret
     exact⟨rfl,_,_,pF.out⟩
theorem Il(W0 w:World)(r:Nat)(v gG aY:Value)(B:List Int)(s:vF)(num K:Int)(h:uT W0 w r v gG aY s)(h0:K≠0)(h1:K≠1)(h2:K≠2)(h5:K≠5):
  Calls Tryz.prog 256 #[.pointer (some ⟨r,0,none⟩),.int .i64 num,.int .i64 K] w (dh (jf B s num K) W0 r v):=by
 have hO:=af (h.field num K).rd.own;have hv:uG B s.at' num K=none:=by unfold uG;rw[if_neg h0,if_neg h2,if_neg h1,if_neg h5]
 have e0:(K==0)=false:=by simpa using h0
 have e1:(K==1)=false:=by simpa using h1
 have e2:(K==2)=false:=by simpa using h2
 have e5:(K==5)=false:=by simpa using h5
 unfold dh jf;rw[hv];simp only[Option.bind_none];clear h h0 h1 h2 h5 hv;go_enter Tryz.func256,Tryz.ntmps256
 go_wp2_with fail
 go_ret
 exact⟨⟨11,by decide,rfl⟩,hO.out⟩
theorem Ii(W0 w:World)(r:Nat)(v gG aY:Value)(B:List Int)(s:vF)(num:Int)(h:uT W0 w r v gG aY s)(hR:aG bL W0 v B)(hrb: ∀b,v.ownBlock=some b->b<W0.heap.size)(hc:eZ v)(hB:pE B)(hl:B.length<=4096)(hi:s.at'<=B.length)(vX:s.out.length<=256):
  Calls Tryz.prog 256 #[.pointer (some ⟨r,0,none⟩),.int .i64 num,.int .i64 1] w (dh (jf B s num 1) W0 r v):=by
 have hF:=h.field num 1;have uU:=hR.nil' hF.rd.own;have xY: ∀b,v.ownBlock=some b->b≠r:=fun b hb=>by have:=hrb b hb;have:=h.base;omega
 obtain⟨oa,oc,rfl⟩:=h.op.sl;obtain⟨ta,tc,rfl⟩:=h.out.sl;have cN:=Mq r v _ _ B s.at' _ hF.rd.blk uU hc hB hl hi;unfold oK at cN;unfold dh jf;rw[Zx];have hnr:=hF.nr;cases hv:wM 8 B s.at' with
 |none=>
  rw[hv]at cN;simp only[Option.map_none,Option.bind_none];have iE:=af hF.rd.own;have hb0:=af hF.rd.base;have hrow:=af hF.row;have hlw:=af h.own.size;replace cN:=af cN;clear hv h hF hR uU hrb xY hc hB;go_enter Tryz.func256,Tryz.ntmps256
  go_wp2_with fail
  refine cN.out.mono ?_;rintro e w1 ⟨⟨ec,aD,rfl⟩,hO⟩;have h1:(ec !=0)=true:=by simpa using aD
  have aL:=af (iE.out.trans' hO (fun x hx=>.inr (by simp at hx;try(subst hx;exact hb0.out))));have hr1:=hO.heap hrow.out (by simp[hnr]);have g2:=cell_of_row _ w.heap.size 2 _ _ _ hr1;have z2:=frozen_of_row _ w.heap.size 2 _ _ hr1;have hO2:=af (aL.out.setCell (p:=⟨w.heap.size,2,none⟩) (.inr (by have:=iE.out.size;simp at this⊢;exact hlw.out)) (.int .u64 0));change Hid _ at aD;clear hO hr1;go_wp2_with fail
  go_ret
  exact⟨⟨ec,aD.out,rfl⟩,hO2.out⟩
 |some p=>
  obtain⟨x,j⟩:=p;rw[hv]at cN;simp only[Option.map_some,Option.bind_some];replace cN:=af cN;replace hF:=af hF;clear hv h hR uU hrb xY hc hB;by_cases ho:0<s.op.length
  ·rw[if_pos ho]
   have ho':(0:Int)<s.op.length:=by omega
   go_enter Tryz.func256,Tryz.ntmps256
   go_wp2_with fail
   refine cN.out.mono ?_;rintro e w1 ⟨rfl,h1,hO⟩;have hF1:=hF.out.at' h1 hO;obtain⟨⟨g0,g1,g2,g3⟩,hz,k2,k3,hz2⟩:=hF1.cells;have z2:=hz 2;have hF2:=hF1.setVal x;obtain⟨_,_,m2,m3,_⟩:=hF2.cells;replace hF2:=af hF2;clear hF1 h1 hO hz hz2 hF;go_wp2_with fail
   go_ret
   exact⟨rfl,_,_,hF2.out.rd⟩
  ·rw[if_neg ho]
   have ho': ¬(0:Int)<s.op.length:=by omega
   by_cases hfu:256<=s.out.length
   ·rw[if_pos hfu]
    have JW:(256:Int)<=s.out.length:=by omega
    go_enter Tryz.func256,Tryz.ntmps256
    go_wp2_with fail
    refine cN.out.mono ?_;rintro e w1 ⟨rfl,h1,hO⟩;have hF1:=hF.out.at' h1 hO;obtain⟨⟨g0,g1,g2,g3⟩,hz,k2,k3,hz2⟩:=hF1.cells;have z2:=hz 2;have hF2:=hF1.setVal x;obtain⟨_,_,m2,m3,_⟩:=hF2.cells;replace hF2:=af hF2;clear hF1 h1 hO hz hz2 hF;go_wp2_with fail
    go_ret
    exact⟨⟨6,by decide,rfl⟩,hF2.out.rd.own⟩
   ·rw[if_neg hfu]
    have JW: ¬(256:Int)<=s.out.length:=by omega
    go_enter Tryz.func256,Tryz.ntmps256
    go_wp2_with fail
    refine cN.out.mono ?_;rintro e w1 ⟨rfl,h1,hO⟩;have hF1:=hF.out.at' h1 hO;obtain⟨⟨g0,g1,g2,g3⟩,hz,k2,k3,hz2⟩:=hF1.cells;have z2:=hz 2;have hF2:=hF1.setVal x;obtain⟨_,_,m2,m3,_⟩:=hF2.cells;replace hF2:=af hF2;have hl1:=af (show(s.out.length+[(bN.mk num 1 x ⟨#[]⟩)].length)*40<=140737488355328 by simp only[List.length_singleton];omega);have hl2:=af (show s.out.length+[(bN.mk num 1 x ⟨#[]⟩)].length<=maxLen by unfold maxLen;simp only[List.length_singleton];omega);have hl3:=af (show(s.out++[(bN.mk num 1 x ⟨#[]⟩)]).length=s.out.length+1 by simp);clear hF1 h1 hO hz hz2 hF;go_wp2_with fail
    clear g0 g1 g2 g3 k2 k3 m2 m3 z2;generalize(w1.setCell ⟨w.heap.size,2,none⟩ (.int .u64 x))=w2 at*;have hD:=hF2.out.nil' ((ai.refl [] w2).drew);obtain⟨⟨p0,p1,p2,p3⟩,_,p4,p5,_⟩:=hD.cells;have hA:=hF2.out.nil' (((ai.refl [] w2).alloc (.cells (fL (bN.mk num 1 x ⟨#[]⟩)).toArray 100)).drew);obtain⟨⟨q0,q1,q2,q3⟩,_,q4,q5,_⟩:=hA.cells;have mR:=af ((aG.new (enc:=fL) (T:=100) w2 (bN.mk num 1 x ⟨#[]⟩) 1).nil' ((ai.refl [] _).drew));change Hid _ at hA;simp only[fL]at hA q0 q1 q2 q3 q4 q5 mR;clear hD;go_region_law((go_loud(refine eX rfl (.tmp 62) (.tmp 64) (by rfl) Be hA.out.rd.own (by rfl) hA.out.rd.out (by rfl) mR.out hl1.out hl2.out ?_);intro va w5 hS5 hqq hg5 iD;obtain⟨a5,c5,rfl⟩:=hS5.sl;rw[hl3.out]at hS5 hg5⊢;obtain⟨⟨kC,f5⟩,pF⟩:=hA.out.rd.took hS5 iD hg5;replace pF:=af pF;clear hS5 hg5 iD hqq))
    all_goals
     go_wp2_with fail
     go_ret
     exact⟨rfl,_,_,pF.out⟩
theorem Ij(W0 w:World)(r:Nat)(v gG aY:Value)(B:List Int)(s:vF)(num:Int)(h:uT W0 w r v gG aY s)(hR:aG bL W0 v B)(hrb: ∀b,v.ownBlock=some b->b<W0.heap.size)(hc:eZ v)(hB:pE B)(hl:B.length<=4096)(hi:s.at'<=B.length)(vX:s.out.length<=256):
  Calls Tryz.prog 256 #[.pointer (some ⟨r,0,none⟩),.int .i64 num,.int .i64 5] w (dh (jf B s num 5) W0 r v):=by
 have hF:=h.field num 5;have uU:=hR.nil' hF.rd.own;have xY: ∀b,v.ownBlock=some b->b≠r:=fun b hb=>by have:=hrb b hb;have:=h.base;omega
 obtain⟨oa,oc,rfl⟩:=h.op.sl;obtain⟨ta,tc,rfl⟩:=h.out.sl;have cN:=Mr r v _ _ B s.at' _ hF.rd.blk uU hc hB hl hi;unfold oK at cN;unfold dh jf;rw[Zy];have hnr:=hF.nr;cases hv:wM 4 B s.at' with
 |none=>
  rw[hv]at cN;simp only[Option.map_none,Option.bind_none];have iE:=af hF.rd.own;have hb0:=af hF.rd.base;have hrow:=af hF.row;have hlw:=af h.own.size;replace cN:=af cN;clear hv h hF hR uU hrb xY hc hB;go_enter Tryz.func256,Tryz.ntmps256
  go_wp2_with fail
  refine cN.out.mono ?_;rintro e w1 ⟨⟨ec,aD,rfl⟩,hO⟩;have h1:(ec !=0)=true:=by simpa using aD
  have aL:=af (iE.out.trans' hO (fun x hx=>.inr (by simp at hx;try(subst hx;exact hb0.out))));have hr1:=hO.heap hrow.out (by simp[hnr]);have g2:=cell_of_row _ w.heap.size 2 _ _ _ hr1;have z2:=frozen_of_row _ w.heap.size 2 _ _ hr1;have hO2:=af (aL.out.setCell (p:=⟨w.heap.size,2,none⟩) (.inr (by have:=iE.out.size;simp at this⊢;exact hlw.out)) (.int .u64 0));change Hid _ at aD;clear hO hr1;go_wp2_with fail
  go_ret
  exact⟨⟨ec,aD.out,rfl⟩,hO2.out⟩
 |some p=>
  obtain⟨x,j⟩:=p;rw[hv]at cN;simp only[Option.map_some,Option.bind_some];replace cN:=af cN;replace hF:=af hF;clear hv h hR uU hrb xY hc hB;by_cases ho:0<s.op.length
  ·rw[if_pos ho]
   have ho':(0:Int)<s.op.length:=by omega
   go_enter Tryz.func256,Tryz.ntmps256
   go_wp2_with fail
   refine cN.out.mono ?_;rintro e w1 ⟨rfl,h1,hO⟩;have hF1:=hF.out.at' h1 hO;obtain⟨⟨g0,g1,g2,g3⟩,hz,k2,k3,hz2⟩:=hF1.cells;have z2:=hz 2;have hF2:=hF1.setVal x;obtain⟨_,_,m2,m3,_⟩:=hF2.cells;replace hF2:=af hF2;clear hF1 h1 hO hz hz2 hF;go_wp2_with fail
   go_ret
   exact⟨rfl,_,_,hF2.out.rd⟩
  ·rw[if_neg ho]
   have ho': ¬(0:Int)<s.op.length:=by omega
   by_cases hfu:256<=s.out.length
   ·rw[if_pos hfu]
    have JW:(256:Int)<=s.out.length:=by omega
    go_enter Tryz.func256,Tryz.ntmps256
    go_wp2_with fail
    refine cN.out.mono ?_;rintro e w1 ⟨rfl,h1,hO⟩;have hF1:=hF.out.at' h1 hO;obtain⟨⟨g0,g1,g2,g3⟩,hz,k2,k3,hz2⟩:=hF1.cells;have z2:=hz 2;have hF2:=hF1.setVal x;obtain⟨_,_,m2,m3,_⟩:=hF2.cells;replace hF2:=af hF2;clear hF1 h1 hO hz hz2 hF;go_wp2_with fail
    go_ret
    exact⟨⟨6,by decide,rfl⟩,hF2.out.rd.own⟩
   ·rw[if_neg hfu]
    have JW: ¬(256:Int)<=s.out.length:=by omega
    go_enter Tryz.func256,Tryz.ntmps256
    go_wp2_with fail
    refine cN.out.mono ?_;rintro e w1 ⟨rfl,h1,hO⟩;have hF1:=hF.out.at' h1 hO;obtain⟨⟨g0,g1,g2,g3⟩,hz,k2,k3,hz2⟩:=hF1.cells;have z2:=hz 2;have hF2:=hF1.setVal x;obtain⟨_,_,m2,m3,_⟩:=hF2.cells;replace hF2:=af hF2;have hl1:=af (show(s.out.length+[(bN.mk num 5 x ⟨#[]⟩)].length)*40<=140737488355328 by simp only[List.length_singleton];omega);have hl2:=af (show s.out.length+[(bN.mk num 5 x ⟨#[]⟩)].length<=maxLen by unfold maxLen;simp only[List.length_singleton];omega);have hl3:=af (show(s.out++[(bN.mk num 5 x ⟨#[]⟩)]).length=s.out.length+1 by simp);clear hF1 h1 hO hz hz2 hF;go_wp2_with fail
    clear g0 g1 g2 g3 k2 k3 m2 m3 z2;generalize(w1.setCell ⟨w.heap.size,2,none⟩ (.int .u64 x))=w2 at*;have hD:=hF2.out.nil' ((ai.refl [] w2).drew);obtain⟨⟨p0,p1,p2,p3⟩,_,p4,p5,_⟩:=hD.cells;have hA:=hF2.out.nil' (((ai.refl [] w2).alloc (.cells (fL (bN.mk num 5 x ⟨#[]⟩)).toArray 100)).drew);obtain⟨⟨q0,q1,q2,q3⟩,_,q4,q5,_⟩:=hA.cells;have mR:=af ((aG.new (enc:=fL) (T:=100) w2 (bN.mk num 5 x ⟨#[]⟩) 1).nil' ((ai.refl [] _).drew));change Hid _ at hA;simp only[fL]at hA q0 q1 q2 q3 q4 q5 mR;clear hD;go_region_law((go_loud(refine eX rfl (.tmp 62) (.tmp 64) (by rfl) Be hA.out.rd.own (by rfl) hA.out.rd.out (by rfl) mR.out hl1.out hl2.out ?_);intro va w5 hS5 hqq hg5 iD;obtain⟨a5,c5,rfl⟩:=hS5.sl;rw[hl3.out]at hS5 hg5⊢;obtain⟨⟨kC,f5⟩,pF⟩:=hA.out.rd.took hS5 iD hg5;replace pF:=af pF;clear hS5 hg5 iD hqq))
    all_goals
     go_wp2_with fail
     go_ret
     exact⟨rfl,_,_,pF.out⟩
theorem Ih(W0 w:World)(r:Nat)(v gG aY:Value)(B:List Int)(s:vF)(num:Int)(h:uT W0 w r v gG aY s)(hR:aG bL W0 v B)(hrb: ∀b,v.ownBlock=some b->b<W0.heap.size)(hc:eZ v)(hB:pE B)(hl:B.length<=4096)(hi:s.at'<=B.length)(vX:s.out.length<=256):
  Calls Tryz.prog 256 #[.pointer (some ⟨r,0,none⟩),.int .i64 num,.int .i64 0] w (dh (jf B s num 0) W0 r v):=by
 have hF:=h.field num 0;have uU:=hR.nil' hF.rd.own;have xY: ∀b,v.ownBlock=some b->b≠r:=fun b hb=>by have:=hrb b hb;have:=h.base;omega
 obtain⟨oa,oc,rfl⟩:=h.op.sl;obtain⟨ta,tc,rfl⟩:=h.out.sl;have cN:=uJ r v _ _ B s.at' _ hF.rd.blk uU hc hB hl hi;unfold vH at cN;unfold dh jf;rw[Zw];have hnr:=hF.nr;cases hv:oH B s.at' with
 |none=>
  rw[hv]at cN;simp only[Option.map_none,Option.bind_none];have iE:=af hF.rd.own;have hb0:=af hF.rd.base;have hrow:=af hF.row;have hlw:=af h.own.size;replace cN:=af cN;clear hv h hF hR uU hrb xY hc hB;go_enter Tryz.func256,Tryz.ntmps256
  go_wp2_with fail
  refine cN.out.mono ?_;rintro e w1 ⟨⟨ec,aD,rfl⟩,hO⟩;have h1:(ec !=0)=true:=by simpa using aD
  have aL:=af (iE.out.trans' hO (fun x hx=>.inr (by simp at hx;try(subst hx;exact hb0.out))));have hr1:=hO.heap hrow.out (by simp[hnr]);have g2:=cell_of_row _ w.heap.size 2 _ _ _ hr1;have z2:=frozen_of_row _ w.heap.size 2 _ _ hr1;have hO2:=af (aL.out.setCell (p:=⟨w.heap.size,2,none⟩) (.inr (by have:=iE.out.size;simp at this⊢;exact hlw.out)) (.int .u64 0));change Hid _ at aD;clear hO hr1;go_wp2_with fail
  go_ret
  exact⟨⟨ec,aD.out,rfl⟩,hO2.out⟩
 |some p=>
  obtain⟨x,j⟩:=p;rw[hv]at cN;simp only[Option.map_some,Option.bind_some];replace cN:=af cN;replace hF:=af hF;clear hv h hR uU hrb xY hc hB;by_cases ho:0<s.op.length
  ·rw[if_pos ho]
   have ho':(0:Int)<s.op.length:=by omega
   go_enter Tryz.func256,Tryz.ntmps256
   go_wp2_with fail
   refine cN.out.mono ?_;rintro e w1 ⟨rfl,h1,hO⟩;have hF1:=hF.out.at' h1 hO;obtain⟨⟨g0,g1,g2,g3⟩,hz,k2,k3,hz2⟩:=hF1.cells;have z2:=hz 2;have hF2:=hF1.setVal x;obtain⟨_,_,m2,m3,_⟩:=hF2.cells;replace hF2:=af hF2;clear hF1 h1 hO hz hz2 hF;go_wp2_with fail
   go_ret
   exact⟨rfl,_,_,hF2.out.rd⟩
  ·rw[if_neg ho]
   have ho': ¬(0:Int)<s.op.length:=by omega
   by_cases hfu:256<=s.out.length
   ·rw[if_pos hfu]
    have JW:(256:Int)<=s.out.length:=by omega
    go_enter Tryz.func256,Tryz.ntmps256
    go_wp2_with fail
    refine cN.out.mono ?_;rintro e w1 ⟨rfl,h1,hO⟩;have hF1:=hF.out.at' h1 hO;obtain⟨⟨g0,g1,g2,g3⟩,hz,k2,k3,hz2⟩:=hF1.cells;have z2:=hz 2;have hF2:=hF1.setVal x;obtain⟨_,_,m2,m3,_⟩:=hF2.cells;replace hF2:=af hF2;clear hF1 h1 hO hz hz2 hF;go_wp2_with fail
    go_ret
    exact⟨⟨6,by decide,rfl⟩,hF2.out.rd.own⟩
   ·rw[if_neg hfu]
    have JW: ¬(256:Int)<=s.out.length:=by omega
    go_enter Tryz.func256,Tryz.ntmps256
    go_wp2_with fail
    refine cN.out.mono ?_;rintro e w1 ⟨rfl,h1,hO⟩;have hF1:=hF.out.at' h1 hO;obtain⟨⟨g0,g1,g2,g3⟩,hz,k2,k3,hz2⟩:=hF1.cells;have z2:=hz 2;have hF2:=hF1.setVal x;obtain⟨_,_,m2,m3,_⟩:=hF2.cells;replace hF2:=af hF2;have hl1:=af (show(s.out.length+[(bN.mk num 0 x ⟨#[]⟩)].length)*40<=140737488355328 by simp only[List.length_singleton];omega);have hl2:=af (show s.out.length+[(bN.mk num 0 x ⟨#[]⟩)].length<=maxLen by unfold maxLen;simp only[List.length_singleton];omega);have hl3:=af (show(s.out++[(bN.mk num 0 x ⟨#[]⟩)]).length=s.out.length+1 by simp);clear hF1 h1 hO hz hz2 hF;go_wp2_with fail
    clear g0 g1 g2 g3 k2 k3 m2 m3 z2;generalize(w1.setCell ⟨w.heap.size,2,none⟩ (.int .u64 x))=w2 at*;have hD:=hF2.out.nil' ((ai.refl [] w2).drew);obtain⟨⟨p0,p1,p2,p3⟩,_,p4,p5,_⟩:=hD.cells;have hA:=hF2.out.nil' (((ai.refl [] w2).alloc (.cells (fL (bN.mk num 0 x ⟨#[]⟩)).toArray 100)).drew);obtain⟨⟨q0,q1,q2,q3⟩,_,q4,q5,_⟩:=hA.cells;have mR:=af ((aG.new (enc:=fL) (T:=100) w2 (bN.mk num 0 x ⟨#[]⟩) 1).nil' ((ai.refl [] _).drew));change Hid _ at hA;simp only[fL]at hA q0 q1 q2 q3 q4 q5 mR;clear hD;go_region_law((go_loud(refine eX rfl (.tmp 62) (.tmp 64) (by rfl) Be hA.out.rd.own (by rfl) hA.out.rd.out (by rfl) mR.out hl1.out hl2.out ?_);intro va w5 hS5 hqq hg5 iD;obtain⟨a5,c5,rfl⟩:=hS5.sl;rw[hl3.out]at hS5 hg5⊢;obtain⟨⟨kC,f5⟩,pF⟩:=hA.out.rd.took hS5 iD hg5;replace pF:=af pF;clear hS5 hg5 iD hqq))
    all_goals
     go_wp2_with fail
     go_ret
     exact⟨rfl,_,_,pF.out⟩
theorem ZA{x:Int}(h0:0<=x)(h1:x<=18446744073709551615):wrap64 (Go.bits .and .u64 x 7)=x%8:=by
 obtain⟨n,rfl⟩:=Int.eq_ofNat_of_zero_le h0;have hn:n<18446744073709551616:=by omega
 have e:Go.bits .and .u64 (n:Int) (7:Int)=((n&&&7:Nat):Int):=by
  have hx:n&&&7<2^64:=Nat.lt_of_le_of_lt Nat.and_le_left (by omega);have h1':(BitVec.ofInt 64 (n:Int)).toNat=n:=by
   rw[BitVec.ofInt_natCast,BitVec.toNat_ofNat];exact Nat.mod_eq_of_lt (by omega)
  show IntKind.u64.wrap ((BitVec.ofInt 64 (n:Int)&&&BitVec.ofInt 64 (7:Int)).toNat:Int)=_;rw[BitVec.toNat_and,h1',show(BitVec.ofInt 64 (7:Int)).toNat=7 by decide,IntKind.wrap_u64];omega
 rw[e];have h7:n&&&7=n%8:=Nat.and_two_pow_sub_one_eq_mod n 3;rw[h7];unfold wrap64;omega
theorem Ms(W0 w:World)(r:Nat)(v gG aY:Value)(B:List Int)(s:vF)(num K:Int)(h:uT W0 w r v gG aY s)(hR:aG bL W0 v B)(hrb: ∀b,v.ownBlock=some b->b<W0.heap.size)(hc:eZ v)(hB:pE B)(hl:B.length<=4096)(hi:s.at'<=B.length)(vX:s.out.length<=256):
  Calls Tryz.prog 256 #[.pointer (some ⟨r,0,none⟩),.int .i64 num,.int .i64 K] w (dh (jf B s num K) W0 r v):=by
 by_cases h0:K=0
 ·subst h0;exact Ih W0 w r v gG aY B s num h hR hrb hc hB hl hi vX
 by_cases h1:K=1
 ·subst h1;exact Ii W0 w r v gG aY B s num h hR hrb hc hB hl hi vX
 by_cases h2:K=2
 ·subst h2;exact Ik W0 w r v gG aY B s num h hR hrb hc hB hl hi vX
 by_cases h5:K=5
 ·subst h5;exact Ij W0 w r v gG aY B s num h hR hrb hc hB hl hi vX
 exact Il W0 w r v gG aY B s num K h h0 h1 h2 h5
theorem QJ(W0 w:World)(r:Nat)(v gG aY:Value)(B:List Int)(s:vF)(h:uT W0 w r v gG aY s)(hR:aG bL W0 v B)(hrb: ∀b,v.ownBlock=some b->b<W0.heap.size)(hc:eZ v)(hB:pE B)(hl:B.length<=4096)(hi:s.at'<=B.length)(vX:s.out.length<=256)(h8:s.op.length<=8):
  Calls Tryz.prog 209 #[.pointer (some ⟨r,0,none⟩)] w (dh (tN B s) W0 r v):=by
 have uU:=hR.nil' h.own;have cN:=uJ r v _ _ B s.at' _ h.blk uU hc hB hl hi;unfold vH at cN;unfold tN;cases hv:oH B s.at' with
 |none=>
  rw[hv]at cN;simp only[Option.bind_none];unfold dh;have iE:=af h.own;replace cN:=af cN;clear hv h hR uU hrb hc hB;go_enter Tryz.func209,Tryz.ntmps209
  go_wp2_with fail
  refine cN.out.mono ?_;rintro e w1 ⟨⟨ec,aD,rfl⟩,hO⟩;have h1:(ec !=0)=true:=by simpa using aD
  have aL:=af (iE.out.trans hO);change Hid _ at aD;clear hO;go_wp2_with fail
  go_ret
  exact⟨⟨ec,aD.out,rfl⟩,aL.out⟩
 |some p=>
  obtain⟨x,j⟩:=p;obtain⟨hj1,hj2,hx0,hx1⟩:=kU hB hi hv;rw[hv]at cN;simp only[Option.bind_some];replace cN:=af cN;by_cases hn:x/8<1\/536870912<=x/8
  ·rw[if_pos hn]
   unfold dh;go_enter Tryz.func209,Tryz.ntmps209
   go_wp2_with fail
   refine cN.out.mono ?_;rintro e w1 ⟨rfl,hb1,hO⟩;have h1:=af (h.at' hb1 hO).own;clear hb1 hO h hR uU;go_wp2_with fail
   all_goals
    go_ret
    exact⟨⟨5,by decide,rfl⟩,h1.out⟩
  ·rw[if_neg hn]
   have hn1: ¬x/8<1:=fun hh=>hn (.inl hh)
   have hn2: ¬536870912<=x/8:=fun hh=>hn (.inr hh)
   clear hn;by_cases hk3:x%8=3
   ·rw[if_pos hk3]
    generalize ht:(if 8<=s.op.length then none else some (⟨j,s.op++[x/8],s.out⟩:vF))=t;change Hid _ at ht;have X0:=ZA hx0 hx1;have e3:(x%8==3)=true:=by simpa using hk3
    go_enter Tryz.func209,Tryz.ntmps209
    go_wp2_with fail
    refine cN.out.mono ?_;rintro e w1 ⟨rfl,hb1,hO⟩;have h1:=h.at' hb1 hO;have c1:=Ie W0 w1 r v gG aY ⟨j,s.op,s.out⟩ (x/8) h1;rw[ht.out]at c1;replace c1:=af c1;clear hb1 hO h hR uU hB h1 hrb hc;go_wp2_with fail
    all_goals
     try rw[X0]
     refine c1.out.mono ?_;intro e w2 hp;obtain⟨ev,rfl⟩: ∃ev,e=.returned ev:=by
      cases t with
      |none=>obtain⟨⟨ec,_,rfl⟩,_⟩:=hp;exact⟨_,rfl⟩
      |some s'=>obtain⟨rfl,_⟩:=hp;exact⟨_,rfl⟩
     change Hid _ at hp;go_wp2_with fail
     go_ret
     exact hp.out
   ·rw[if_neg hk3]
    by_cases hk4:x%8=4
    ·rw[if_pos hk4]
     generalize ht:(if s.op.getLast?=some (x/8)then some (⟨j,s.op.dropLast,s.out⟩:vF)else none)=t;change Hid _ at ht;have X0:=ZA hx0 hx1;have e3:(x%8==3)=false:=by simpa using hk3
     have e4:(x%8==4)=true:=by simpa using hk4
     go_enter Tryz.func209,Tryz.ntmps209
     go_wp2_with fail
     refine cN.out.mono ?_;rintro e w1 ⟨rfl,hb1,hO⟩;have h1:=h.at' hb1 hO;have c1:=QI W0 w1 r v gG aY ⟨j,s.op,s.out⟩ (x/8) h1 h8;rw[ht.out]at c1;replace c1:=af c1;clear hb1 hO h hR uU hB h1 hrb hc;go_wp2_with fail
     all_goals
      try rw[X0]
      refine c1.out.mono ?_;intro e w2 hp;obtain⟨ev,rfl⟩: ∃ev,e=.returned ev:=by
       cases t with
       |none=>obtain⟨⟨ec,_,rfl⟩,_⟩:=hp;exact⟨_,rfl⟩
       |some s'=>obtain⟨rfl,_⟩:=hp;exact⟨_,rfl⟩
      change Hid _ at hp;go_wp2_with fail
      go_ret
      exact hp.out
    ·rw[if_neg hk4]
     generalize ht:jf B ⟨j,s.op,s.out⟩ (x/8) (x%8)=t;change Hid _ at ht;have X0:=ZA hx0 hx1;have e3:(x%8==3)=false:=by simpa using hk3
     have e4:(x%8==4)=false:=by simpa using hk4
     go_enter Tryz.func209,Tryz.ntmps209
     go_wp2_with fail
     refine cN.out.mono ?_;rintro e w1 ⟨rfl,hb1,hO⟩;have h1:=h.at' hb1 hO;have c1:=Ms W0 w1 r v gG aY B ⟨j,s.op,s.out⟩ (x/8) (x%8) h1 hR hrb hc hB hl hj2 vX;rw[ht.out]at c1;replace c1:=af c1;clear hb1 hO h hR uU hB h1 hrb hc;go_wp2_with fail
     all_goals
      try rw[X0]
      refine c1.out.mono ?_;intro e w2 hp;obtain⟨ev,rfl⟩: ∃ev,e=.returned ev:=by
       cases t with
       |none=>obtain⟨⟨ec,_,rfl⟩,_⟩:=hp;exact⟨_,rfl⟩
       |some s'=>obtain⟨rfl,_⟩:=hp;exact⟨_,rfl⟩
      change Hid _ at hp;go_wp2_with fail
      go_ret
      exact hp.out
end Go.Proofs.YtedcakchekaemaaGreatDoor
