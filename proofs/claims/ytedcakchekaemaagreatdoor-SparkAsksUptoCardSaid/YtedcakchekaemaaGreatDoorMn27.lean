import Derived.Test.YtedcakchekaemaaGreatDoorMn24
set_option maxRecDepth 100000
set_option maxHeartbeats 16000000
set_option linter.all false
namespace Go.Proofs.YtedcakchekaemaaGreatDoor
open Go.RowKit
variable [Kd]
def DY(ok:Bool)(w:World)(e:Ending)(w':World):Prop:=
 match ok with
 |true=>(∃a1 n1 c1 a2 n2 c2 a3 n3 c3,e=.returned (.tuple #[.agg #[.slice a1 n1 c1,.slice a2 n2 c2,.slice a3 n3 c3],.int .i64 0]))/\ai [] w w'
 |false=>(∃ec:Int,ec≠0/\e=.returned (.tuple #[.agg #[.slice none 0 0,.slice none 0 0,.slice none 0 0],.int .i64 ec]))/\ai [] w w'
theorem yc{ok:Bool}{w w':World}{ec:Int}(h:ok=false)(ay:ec≠0)(ho:ai [] w w'):DY ok w (.returned (.tuple #[.agg #[.slice none 0 0,.slice none 0 0,.slice none 0 0],.int .i64 ec])) w':=by subst h;exact⟨⟨ec,ay,rfl⟩,ho⟩
theorem Sz(B:List Int):yT B=match sj B with
 |none=>false
 |some l=>uS l&&(aX l 4).all (fun f=>oI (aX l 2).length (ak f.text)):=rfl
theorem Pw(s:ByteArray)(w:World)(hs:s.size<=4096)(hK:aN w): ∃w1 c,(convert 9 23 (.string s)).run Tryz.prog w=.ok (.slice (some ⟨w.heap.size,0,none⟩) s.size c) w1/\ai [] w w1/\
  Calls Tryz.prog 392 #[.slice (some ⟨w.heap.size,0,none⟩) s.size c] w1 (DY (yT (ak s)) w):=by
 obtain⟨w0,c,h1,hR,hcp,gV,hsz0⟩:=nG s w;refine⟨w0,c,h1,gV,?_⟩;clear h1;obtain⟨ok,hok⟩: ∃ok,yT (ak s)=ok:=⟨_,rfl⟩;rw[hok];rw[Sz]at hok;have hA:=(ai.refl [] w0).alloc (.cells #[.slice none 0 0,.slice none 0 0,.slice none 0 0] 244);have fU:=heap_alloc_new w0 (.cells #[.slice none 0 0,.slice none 0 0,.slice none 0 0] 244);have cW:=af (tH _ _ _ (hR.nil' hA) (fun b hb=>by simp[Value.ownBlock]at hb;simp;omega) hcp (bN s) (by rw[dM];omega));have vU:=gV.trans hA;have ZM:w.heap.size<=w0.heap.size:=gV.size;have Js:=af hK;clear hR hcp hsz0 hK;go_enter Tryz.func392,Tryz.ntmps392
 go_wp2_with fail
 refine cW.out.mono ?_;intro e w2 hp;clear cW;generalize hrb:w0.heap.size=rb at*;change Hid _ at hrb;cases hw:sj (ak s)with
 |none=>
  rw[hw]at hp hok;simp only at hok;obtain⟨⟨ec,ay,rfl⟩,hO2⟩:=hp;have aF:=af hok.symm;have hO3:=vU.trans hO2;have bY:=hO2.heap fU (by simp;try omega);obtain⟨⟨r0,r1,r2⟩,y0,y1,y2,_⟩:=q3 bY;obtain⟨hs3,aJ⟩:=jg bY (.slice none 0 0) (.slice none 0 0) (.slice none 0 0);change Hid _ at hs3;replace aJ:=af (hO3.trans' aJ (fun x hx=>.inr (by simp at hx;omega)));have q:(ec !=0)=true:=by simpa using ay
  change Hid _ at ay;clear hA vU gV hO2 fU bY hO3 hok;go_wp2_with fail
  obtain⟨⟨g0,g1,g2⟩,_⟩:=q3 hs3.out;exact bodyPost_ret (v:=.tuple #[.agg #[.slice none 0 0,.slice none 0 0,.slice none 0 0],.int .i64 ec]) (by simp[results,Tryz.results392,go_sem,g0,g1,g2];try rfl) rfl (yc aF.out ay.out aJ.out)
 |some l=>
  rw[hw]at hp hok;simp only at hok;obtain⟨⟨aT,rfl,hS⟩,hO2⟩:=hp;have hO3:=vU.trans hO2;have bY:=hO2.heap fU (by simp;try omega);obtain⟨hl,hf⟩:=mG (bN s) hw;have cS:=af (F7 aT l w2 (hS.reads dX) hl);obtain⟨va,vc,rfl⟩:=hS.sl;have hfR:=af (fun f hf'=>((tJ hf 4) f hf').t);have hfT:=af (fun f hf'=>((tJ hf 3) f hf'));clear hw hS hA vU fU gV;go_wp2_with fail
  refine cS.out.mono ?_;intro e w3 hp;clear cS;cases hd:uS l with
  |false=>
   rw[hd]at hp hok;simp only[Bool.false_and]at hok;obtain⟨⟨ec,ay,rfl⟩,hO4⟩:=hp;have aF:=af hok.symm;have hAs:=(ai.refl [] w3).alloc (.cells #[.slice none 0 0,.slice none 0 0,.slice none 0 0] 544);have aB:=(hO3.trans hO4).trans hAs;have MR:=hAs.heap (hO4.heap bY (by simp)) (by simp);have q:(ec !=0)=true:=by simpa using ay
   change Hid _ at ay;clear hO2 bY hO3 hok hO4 hAs hfR hfT hd;go_upto_region 5 with(fail)
   generalize(w3.alloc (.cells #[.slice none 0 0,.slice none 0 0,.slice none 0 0] 544))=w4 at*;generalize w3.heap.size=sb at*;obtain⟨⟨r0,r1,r2⟩,y0,y1,y2,_⟩:=q3 MR;obtain⟨hs3,aJ⟩:=jg MR (.slice none 0 0) (.slice none 0 0) (.slice none 0 0);change Hid _ at hs3;replace aJ:=af (aB.trans' aJ (fun x hx=>.inr (by simp at hx;omega)));clear aB MR;go_wp2_with fail
   obtain⟨⟨g0,g1,g2⟩,_⟩:=q3 hs3.out;exact bodyPost_ret (v:=.tuple #[.agg #[.slice none 0 0,.slice none 0 0,.slice none 0 0],.int .i64 ec]) (by simp[results,Tryz.results392,go_sem,g0,g1,g2];try rfl) rfl (yc aF.out ay.out aJ.out)
  |true=>
   rw[hd]at hp hok;simp only[Bool.true_and]at hok;obtain⟨⟨a1,x1,a2,x2,a3,x3,rfl,gu,hR2,eP⟩,hO4⟩:=hp;have M8:(aX l 2).length=(aX l 3).length/\(aX l 2).length<=16/\(aX l 4).length<=32:=by
    unfold uS at hd;simp only[Bool.and_eq_true,decide_eq_true_eq]at hd;exact⟨hd.1.2,hd.1.1.1.1.2,hd.1.1.2⟩
   obtain⟨M8,Uo,Un⟩:=M8;generalize aX l 2=N at*;generalize aX l 3=T at*;generalize aX l 4=Rw at*;have hAs:=((ai.refl [] w3).alloc (.cells #[.slice a1 N.length x1,.slice a2 T.length x2,.slice a3 Rw.length x3] 544)).alloc (.cells #[.slice none 0 0,.slice none 0 0,.slice none 0 0] 244);have aB:=(hO3.trans hO4).trans hAs;have MR:=hAs.heap (hO4.heap bY (by simp)) (by simp);have hsb:=((ai.refl [] _).alloc (.cells #[.slice none 0 0,.slice none 0 0,.slice none 0 0] 244)).heap (heap_alloc_new w3 (.cells #[.slice a1 N.length x1,.slice a2 T.length x2,.slice a3 Rw.length x3] 544)) (by simp);have hdb:=heap_alloc2_new w3 (.cells #[.slice a1 N.length x1,.slice a2 T.length x2,.slice a3 Rw.length x3] 544) (.cells #[.slice none 0 0,.slice none 0 0,.slice none 0 0] 244);have hrl:rb<w3.heap.size:=Nat.lt_of_lt_of_le (aj bY) hO4.size;have hJ0:OQ ((w3.alloc (.cells #[.slice a1 N.length x1,.slice a2 T.length x2,.slice a3 Rw.length x3] 544)).alloc (.cells #[.slice none 0 0,.slice none 0 0,.slice none 0 0] 244)) ((w3.alloc (.cells #[.slice a1 N.length x1,.slice a2 T.length x2,.slice a3 Rw.length x3] 544)).alloc (.cells #[.slice none 0 0,.slice none 0 0,.slice none 0 0] 244)) (w3.heap.size+1) (.slice none 0 0) (.slice none 0 0) [] []:=
    ⟨ai.refl _ _,hdb,aj hdb,Sl.nil _ _ _,Sl.nil _ _ _,fun g hg=>by cases hg⟩
   have UG: ∀(a:Option Addr) (x:Nat) (M:List bG) (k:Nat) (hk:k<M.length),aA fL w3 (.slice a M.length x) M-> ∃b o,a=some ⟨b,o,none⟩/\ ∀W,ai [w3.heap.size+1] ((w3.alloc (.cells #[.slice a1 N.length x1,.slice a2 T.length x2,.slice a3 Rw.length x3] 544)).alloc (.cells #[.slice none 0 0,.slice none 0 0,.slice none 0 0] 244)) W->W.cell? ⟨b,o+k*4+2,none⟩=some (.int .u64 M[k].val)/\W.cell? ⟨b,o+k*4+3,none⟩=some (.string M[k].text):=by
    intro a x M k hk hR;obtain⟨b,o,rfl,_,_,c2,c3⟩:=hR.fld hk;have hbl:=block_lt_of_cell c3;simp only at hbl;refine⟨b,o,rfl,fun W ho=>?_⟩;have ho2:ai [w3.heap.size+1] w3 W:=hAs.nil.trans ho;exact⟨(ho2.cell (p:=⟨b,_,none⟩) hbl (by simp;omega)).trans c2,(ho2.cell (p:=⟨b,_,none⟩) hbl (by simp;omega)).trans c3⟩
   have hf1:=af (fun k hk=>UG a1 x1 N k hk gu);have hf2:=af (fun k hk=>UG a2 x2 T k hk hR2);have hf3:=af (fun k hk=>UG a3 x3 Rw k hk eP);change Hid _ at hok M8 hf;clear hO2 bY hO3 hO4 hAs hd gu hR2 eP UG hf hdb;go_upto_region 8 with(fail)
   generalize((w3.alloc (.cells #[.slice a1 N.length x1,.slice a2 T.length x2,.slice a3 Rw.length x3] 544)).alloc (.cells #[.slice none 0 0,.slice none 0 0,.slice none 0 0] 244))=W0 at*;generalize w3.heap.size=sb at*;obtain⟨db,hdb⟩: ∃db,db=sb+1:=⟨_,rfl⟩;rw[<-hdb]at hJ0 hf1 hf2 hf3⊢;have hsd:sb≠db:=by omega
   have hrd:rb≠db:=by omega
   have hwd:w.heap.size<=db:=by omega
   change Hid _ at hdb;obtain⟨⟨s0,s1,s2⟩,-⟩:=q3 hsb;have hSb:Hid (∀W,ai [db] W0 W->(W.cell? ⟨sb,0,none⟩=some (.slice a1 N.length x1)/\W.cell? ⟨sb,1,none⟩=some (.slice a2 T.length x2)/\W.cell? ⟨sb,2,none⟩=some (.slice a3 Rw.length x3))/\W.heap[rb]?=some (.cells #[.slice none 0 0,.slice none 0 0,.slice none 0 0] 244 (0,0))):=af fun W ho=>
    ⟨(q3 (ho.heap hsb (by simpa using hsd))).1,ho.heap MR (by simpa using hrd)⟩
   change Hid _ at hJ0 aB;clear MR hsb;go_wp2_with fail
   clear s0 s1 s2;go_loopg[33] N.length (fun g s33 wr=> ∃(k:Nat) (cv tv:Value) (L:List ByteArray) (TT:List Int),k<=N.length/\g=N.length-k/\s33=.int .i64 k/\Aside (OQ W0 wr db cv tv L TT/\L.length=k/\TT.length=k))
   case atStart=>exact⟨0,_,_,[],[],by omega,by omega,rfl,hJ0.out,rfl,rfl⟩
   case round=>
    obtain⟨k,cv,tv,L,TT,hk,rfl,rfl,hJ,hLk,Xh⟩:=hrel;have k0:(0:Int)<=k:=by omega
    by_cases hlt:k<N.length
    ·have k1:(k:Int)<N.length:=by omega
     have hwk:IntKind.i64.wrap ((k:Int)+1)=(k:Int)+1:=IntWalk.i64_in _ (by omega);have ab6:k<T.length:=by rw[<-M8.out];exact hlt
     have k1T:(k:Int)<T.length:=by omega
     obtain⟨b1,o1,rfl,hc1⟩:=hf1.out k hlt;obtain⟨b2,o2,rfl,hc2⟩:=hf2.out k ab6;obtain⟨ca,cc,rfl⟩:=hJ.c.sl;obtain⟨ta,tc,rfl⟩:=hJ.t.sl;generalize N[k].text=x at*;generalize T[k].val=y at*;have hl1:=af (show(L.length+[x].length)*16<=140737488355328 by simp only[List.length_singleton];omega);have hl2:=af (show L.length+[x].length<=maxLen by unfold maxLen;simp only[List.length_singleton];omega);have hl3:=af (show(L++[x]).length=L.length+1 by simp);change Hid _ at hLk Xh hc1 hc2;replace hJ:=af hJ;go_wp2_with fail
     have hD:=hJ.out.nil' ((ai.refl [] wr).drew);have hA:=hJ.out.nil' (((ai.refl [] wr).alloc (.cells #[.string x] 9)).drew);obtain⟨⟨p0,p1,p2⟩,-⟩:=q3 hD.row;obtain⟨⟨q0,q1,q2⟩,-⟩:=q3 hA.row;obtain⟨⟨s0,s1,s2⟩,_⟩:=hSb.out _ hD.own;obtain⟨⟨t0,t1,t2⟩,_⟩:=hSb.out _ hA.own;obtain⟨_,n0⟩:=hc1.out _ hD.own;obtain⟨_,n1⟩:=hc1.out _ hA.own;have mX:=af ((aA.new (enc:=BM) (T:=9) wr x 1).nil' ((ai.refl [] _).drew));replace hA:=af hA;simp only[BM]at mX;clear hD;go_region_law((go_loud(refine fu rfl (.tmp 37) (.tmp 44) (by rfl) Ba (jy _) (by rfl) hA.out.c.bare (by rfl) mX.out hl1.out hl2.out ?_);intro va w5 hS5 hqq hg5 gW;obtain⟨a5,c5,rfl⟩:=hS5.sl;rw[hl3.out]at hS5 hg5⊢;obtain⟨⟨kC,f5⟩,lV⟩:=hA.out.addC (hS5.up (fun g hg=>by rcases hg5 g hg with h4|h4;exact(hA.out.c.block h4).1;exact Nat.le_trans hA.out.own.size h4)) gW hg5;replace lV:=af lV;clear hS5 hg5 gW hqq))
     all_goals
      clear p0 p1 p2 q0 q1 q2 s0 s1 s2 t0 t1 t2 n0 n1 kC f5 mX hA hl1 hl2 hl3;generalize(w5.setCell ⟨db,0,none⟩ (.slice a5 (L.length+1) c5))=w6 at*;have hl1:=af (show(TT.length+[IntKind.u32.wrap y].length)*4<=140737488355328 by have:=Xh.out;simp only[List.length_singleton];omega);have hl2:=af (show TT.length+[IntKind.u32.wrap y].length<=maxLen by have:=Xh.out;unfold maxLen;simp only[List.length_singleton];omega);have hl3:=af (show(TT++[IntKind.u32.wrap y]).length=TT.length+1 by simp);go_upto_region 12 with(fail)
      have hD:=lV.out.nil' ((ai.refl [] w6).drew);have hA:=lV.out.nil' (((ai.refl [] w6).alloc (.cells #[.int .u32 (IntKind.u32.wrap y)] 101)).drew);obtain⟨⟨p0,p1,p2⟩,-⟩:=q3 hD.row;obtain⟨⟨q0,q1,q2⟩,-⟩:=q3 hA.row;obtain⟨⟨s0,s1,s2⟩,_⟩:=hSb.out _ hD.own;obtain⟨⟨t0,t1,t2⟩,_⟩:=hSb.out _ hA.own;obtain⟨n0,_⟩:=hc2.out _ hD.own;obtain⟨n1,_⟩:=hc2.out _ hA.own;have mX:=af ((aA.new (enc:=KA) (T:=101) w6 (IntKind.u32.wrap y) 1).nil' ((ai.refl [] _).drew));replace hA:=af hA;simp only[KA]at mX;clear hD;go_region_law((go_loud(refine fu rfl (.tmp 48) (.tmp 56) (by rfl) Sd (jy _) (by rfl) hA.out.t.bare (by rfl) mX.out hl1.out hl2.out ?_);intro va7 w7 Na hqq hg7 hX7;obtain⟨a7,c7',rfl⟩:=Na.sl;rw[hl3.out]at Na hg7⊢;obtain⟨⟨kC,f5⟩,hJ7⟩:=hA.out.addT (Na.up (fun g hg=>by rcases hg7 g hg with h4|h4;exact(hA.out.t.block h4).1;exact Nat.le_trans hA.out.own.size h4)) hX7 hg7;replace hJ7:=af hJ7;clear Na hg7 hX7 hqq))
      all_goals
       clear p0 p1 p2 q0 q1 q2 s0 s1 s2 t0 t1 t2 n0 n1 kC f5 mX hA hl1 hl2 hl3;go_wp2_with fail
       go_roundg(N.length-(k+1))
       case measure=>omega
       case rel=>exact⟨k+1,_,_,L++[x],TT++[IntKind.u32.wrap y],by omega,rfl,by simp,by have hh:=hJ7.out;exact hh,by simp[hLk.out],by simp[Xh.out]⟩
    ·have k1: ¬(k:Int)<N.length:=by omega
     obtain⟨ca,cc,rfl⟩:=hJ.c.sl;obtain⟨ta,tc,rfl⟩:=hJ.t.sl;have Uh:U1 W0 wr db (.slice ca L.length cc) (.slice ta TT.length tc) (.slice none 0 0) []:=⟨hJ.own,hJ.row,hJ.lt,Sl.nil _ _ _⟩;obtain⟨⟨s0,s1,s2⟩,_⟩:=hSb.out _ hJ.own;change Hid _ at Uh;generalize L.length=nL at*;generalize TT.length=nT at*;clear hJ0 hJ hLk Xh hf1 hf2;go_wp2_with fail
     clear s0 s1 s2;go_loopg[63] Rw.length (fun g s63 wr=> ∃(m:Nat) (rv:Value) (M:List Sh),m<=Rw.length/\g=Rw.length-m/\s63=.int .i64 m/\Aside (U1 W0 wr db (.slice ca nL cc) (.slice ta nT tc) rv M/\M.length=m/\(Rw.take m).all (fun f=>oI N.length (ak f.text))=true))
     case atStart=>exact⟨0,_,[],by omega,by omega,rfl,Uh.out,rfl,by simp⟩
     case round=>
      obtain⟨m,rv,M,hm,rfl,rfl,hJ,ZN,hgood⟩:=hrel;have m0:(0:Int)<=m:=by omega
      obtain⟨ra,rc,rfl⟩:=hJ.r.sl;by_cases hlt2:m<Rw.length
      ·have m1:(m:Int)<Rw.length:=by omega
       have hwm:IntKind.i64.wrap ((m:Int)+1)=(m:Int)+1:=IntWalk.i64_in _ (by omega);obtain⟨b3,o3,rfl,hc3⟩:=hf3.out m hlt2;have hsz:=hfR.out Rw[m] (List.getElem_mem hlt2);have hnext:oI N.length (ak Rw[m].text)=true->(Rw.take (m+1)).all (fun f=>oI N.length (ak f.text))=true:=fun hh=>by
        rw[List.take_succ_eq_append_getElem hlt2,List.all_append,hgood];simp[hh]
       have hbad:oI N.length (ak Rw[m].text)=false->ok=false:=fun hh=>by
        rw[<-hok.out,List.all_eq_false];exact⟨Rw[m],List.getElem_mem hlt2,by simp[hh]⟩
       generalize Rw[m].text=t at*;have eu:=aB.out.trans' hJ.own (fun y hy=>.inr (by simp at hy;omega));have hwr:w.heap.size<=wr.heap.size:=eu.size;have hrq:rb<wr.heap.size:=aj (hSb.out _ hJ.own).2;have cR:=Gb t N.length wr.drew hsz Uo (Js.out.own eu.drew);have hcell:Hid (∀W,ai [] wr W->W.cell? ⟨sb,0,none⟩=some (.slice a1 N.length x1)/\W.cell? ⟨sb,2,none⟩=some (.slice (some ⟨b3,o3,none⟩) Rw.length x3)/\W.cell? ⟨b3,o3+m*4+3,none⟩=some (.string t)):=af fun W ho=>
        ⟨(hSb.out W (hJ.own.trans ho.nil)).1.1,(hSb.out W (hJ.own.trans ho.nil)).1.2.2,(hc3 W (hJ.own.trans ho.nil)).2⟩
       have kW:=hcell.out wr.drew (ai.refl [] wr).drew;change Hid _ at ZN;replace hJ:=af hJ;cases hr:oI N.length (ak t)with
       |false=>
        rw[hr]at cR;have aF:=af (hbad hr);replace cR:=af cR;clear hnext hbad hgood hr hc3;go_wp2_with fail
        go_region_held3(fun W=>W.cell? ⟨sb,0,none⟩=some (.slice a1 N.length x1)/\W.cell? ⟨sb,2,none⟩=some (.slice (some ⟨b3,o3,none⟩) Rw.length x3)/\W.cell? ⟨b3,o3+m*4+3,none⟩=some (.string t)) (first|with_reducible exact kA|with_reducible exact kW|go_keep) ((go_at_call 402;(with_reducible refine cR.out.mono ?_);rintro e w5 ⟨⟨ec,ay,rfl⟩,iw⟩;have kA:=hcell.out _ ((ai.refl [] wr).drew.trans iw)))
        have bI:=eu.trans ((ai.refl [] wr).drew.trans iw);have Ig:=(hSb.out _ (hJ.out.own.trans ((ai.refl [] wr).drew.trans iw).nil)).2;clear kA kW hcell cR iw hJ eu;obtain⟨⟨z0,z1,z2⟩,y0,y1,y2,_⟩:=q3 Ig;obtain⟨hs3,aJ⟩:=jg Ig (.slice none 0 0) (.slice none 0 0) (.slice none 0 0);change Hid _ at hs3;replace aJ:=af (bI.trans' aJ (fun x hx=>.inr (by simp at hx;omega)));have q:(ec !=0)=true:=by simpa using ay
        change Hid _ at ay;clear bI Ig;go_wp2_with fail
        obtain⟨⟨g0,g1,g2⟩,_⟩:=q3 hs3.out;exact bodyPost_ret (v:=.tuple #[.agg #[.slice none 0 0,.slice none 0 0,.slice none 0 0],.int .i64 ec]) (by simp[results,Tryz.results392,go_sem,g0,g1,g2];try rfl) rfl (yc aF.out ay.out aJ.out)
       |true=>
        rw[hr]at cR;have hg:=af (hnext hr);have ab9:M.length<=31:=by have:=ZN.out;omega
        have hl1:=af (show(M.length+1)*24<=140737488355328 by omega);have hl2:=af (show M.length+1<=maxLen by unfold maxLen;omega);replace cR:=af cR;clear hnext hbad hgood hr hc3 ab9;go_wp2_with fail
        go_region_held3(fun W=>W.cell? ⟨sb,0,none⟩=some (.slice a1 N.length x1)/\W.cell? ⟨sb,2,none⟩=some (.slice (some ⟨b3,o3,none⟩) Rw.length x3)/\W.cell? ⟨b3,o3+m*4+3,none⟩=some (.string t)) (first|with_reducible exact kA|with_reducible exact kW|go_keep) ((go_at_call 402;(with_reducible refine cR.out.mono ?_);rintro e w5 ⟨⟨pa,pn,pc,rfl⟩,iw⟩;have kA:=hcell.out _ ((ai.refl [] wr).drew.trans iw)))
        have lV:=hJ.out.nil' ((ai.refl [] wr).drew.trans iw);obtain⟨⟨z0,z1,z2⟩,-⟩:=q3 lV.row;have hJ8:=af (lV.nil' ((ai.refl [] w5).alloc (.cells #[.slice pa pn pc] 303)));have hRb:=af (aA.new (enc:=Yn) (T:=303) w5 ⟨pa,pn,pc⟩ 1);clear kA kW hcell cR iw hJ eu lV;go_wp2_with(at_builtin;refine aO rfl (.tmp 84) (.tmp 86) rfl VQ (jy _) rfl hJ8.out.r.bare rfl hRb.out (by have hq:=hl1.out;simp only[List.length_singleton];exact hq) (by have hq:=hl2.out;simp only[List.length_singleton];exact hq) ?_;intro va9 w9 wI _ _ Zo Zp;obtain⟨aa,ca9,rfl⟩:=wI.sl;obtain⟨⟨kC,f5⟩,Xi⟩:=hJ8.out.addR (wI.up (fun g hg=>by rcases Zo g hg with h4|h4;exact(hJ8.out.r.block h4).1;exact Nat.le_trans hJ8.out.own.size h4)) Zp;replace Xi:=af Xi;clear wI Zo Zp)
        go_roundg(Rw.length-(m+1))
        case measure=>omega
        case rel=>exact⟨m+1,_,M++[⟨pa,pn,pc⟩],by omega,rfl,by simp,by have hh:=Xi.out;rw[List.length_append]at hh;exact hh,by simp[ZN.out],hg.out⟩
      ·have m1: ¬(m:Int)<Rw.length:=by omega
       rw[List.take_of_length_le (by omega)]at hgood;have jd:ok=true:=by rw[<-hok.out];exact hgood
       change Hid _ at jd;have eu:=aB.out.trans' hJ.own (fun y hy=>.inr (by simp at hy;omega));have Ig:=(hSb.out _ hJ.own).2;obtain⟨⟨z0,z1,z2⟩,-⟩:=q3 hJ.row;obtain⟨⟨r0,r1,r2⟩,y0,y1,y2,_⟩:=q3 Ig;obtain⟨hs3,aJ⟩:=jg Ig (.slice ca nL cc) (.slice ta nT tc) (.slice ra M.length rc);change Hid _ at hs3;replace aJ:=af (eu.trans' aJ (fun x hx=>.inr (by simp at hx;omega)));clear hgood hJ ZN Ig eu;generalize M.length=nM at*;go_wp2_with fail
       obtain⟨⟨g0,g1,g2⟩,_⟩:=q3 hs3.out;exact bodyPost_ret (v:=.tuple #[.agg #[.slice ca nL cc,.slice ta nT tc,.slice ra nM rc],.int .i64 0]) (by simp[results,Tryz.results392,go_sem,g0,g1,g2];try rfl) rfl (by rw[jd.out];exact⟨⟨_,_,_,_,_,_,_,_,_,rfl⟩,aJ.out⟩)
structure GI where
 nm:ByteArray
 ty:Int
 v:PV
structure yX (W0 w:World) (b:Nat) (p:GI) (rv:Value) (L:List bG):Prop where
 own:ai [] W0 w
 row:w.heap[b]?=some (.cells #[.string p.nm,.int .u32 p.ty,.int .i64 p.v.k,.int .u64 p.v.n,.string p.v.s,rv] 566 (0,0))
 base:W0.heap.size<=b
 out:Sl 100 fL 4 W0.heap.size w rv L
 ro: ∀g,rv.ownBlock=some g->g≠b
section
variable {W0 w w' w1 : World} {b : Nat} {p : GI} {rv v' : Value} {L L' : List bG}
theorem yX.nil'(h:yX W0 w b p rv L)(ho:ai [] w w'):yX W0 w' b p rv L:=⟨h.own.trans ho,ho.heap h.row (by simp),h.base,h.out.nil' ho,h.ro⟩
theorem yX.set(h:yX W0 w b p rv L){i:Nat}{u:Value}{p':GI}(hs:jh w w' b i u)(hx:(#[.string p.nm,.int .u32 p.ty,.int .i64 p.v.k,.int .u64 p.v.n,.string p.v.s,rv]:Array Value).setIfInBounds i u=#[.string p'.nm,.int .u32 p'.ty,.int .i64 p'.v.k,.int .u64 p'.v.n,.string p'.v.s,rv]):yX W0 w' b p' rv L:=by
 have hr:=hs.row _ _ h.row;rw[hx]at hr;exact⟨h.own.trans' hs.own (fun x hx=>.inr (by simp at hx;subst hx;exact h.base)),hr,h.base,h.out.own hs.own (fun g hg=>by simpa using h.ro g hg),h.ro⟩
theorem yX.cell(h:yX W0 w b p rv L)(i:Nat){u:Value}(hu:(#[.string p.nm,.int .u32 p.ty,.int .i64 p.v.k,.int .u64 p.v.n,.string p.v.s,rv]:Array Value)[i]?=some u):w.cell? ⟨b,i,none⟩=some u/\w.frozen? ⟨b,i,none⟩=false:=
 ⟨by rw[cell_of_row _ _ _ _ _ _ h.row];exact hu,frozen_of_row _ b i _ _ h.row⟩
theorem yX.took(h:yX W0 w b p rv L)(h1:Sl 100 fL 4 W0.heap.size w1 v' L')(h2:ai rv.ownBlock.toList w w1)(h3: ∀g,v'.ownBlock=some g->rv.ownBlock=some g\/w.heap.size<=g):
  (w1.cell? ⟨b,5,none⟩=some rv/\w1.frozen? ⟨b,5,none⟩=false)/\yX W0 (w1.setCell ⟨b,5,none⟩ v') b p v' L':=by
 have hd:b∉rv.ownBlock.toList:=fun hx=>h.ro _ (Option.mem_toList.1 hx) rfl
 have hb1:=h2.heap h.row hd;have hbl:=aj h.row;have hnd: ∀g,v'.ownBlock=some g->g≠b:=fun g hg e=>by
  rcases h3 g hg with h4|h4
  ·exact h.ro g h4 e
  ·omega
 have hO2:ai [b] w1 (w1.setCell ⟨b,5,none⟩ v'):=(ai.refl _ _).setCell (.inl (by simp)) _;refine⟨⟨cell_of_row _ _ 5 _ _ _ hb1,frozen_of_row _ b 5 _ _ hb1⟩,(h.own.trans' h2 (fun x hx=>.inr (h.out.block (Option.mem_toList.1 hx)).1)).trans' hO2 (fun x hx=>.inr (by simp at hx;subst hx;exact h.base)),?_,h.base,h1.own hO2 (fun g hg=>by simpa using hnd g hg),hnd⟩;have:=heap_setCell_same _ b 5 _ _ v' hb1;simpa using this
end
def kQ(t:Option (List bG))(W0 w:World)(b:Nat)(rv:Value)(e:Ending)(w':World):Prop:=
 match t with
 |some L=>e=.returned (.int .i64 0)/\ ∃p rv',yX W0 w' b p rv' L/\ai (b::rv.ownBlock.toList) w w'/\ ∀g,rv'.ownBlock=some g->rv.ownBlock=some g\/w.heap.size<=g
 |none=>(∃ec:Int,ec≠0/\e=.returned (.int .i64 ec))/\ai [] W0 w'
def gI(L:List bG)(f:bG):Option (List bG):=if oV f=true then some (if f.num=1\/f.num=2 then L else L++[f])else none
theorem Jc{t:Option (List bG)}{W0 w w':World}{b:Nat}{p:GI}{rv rv':Value}{L:List bG}(ht:t=some L)(h:yX W0 w' b p rv' L)(ho:ai (b::rv.ownBlock.toList) w w')(hg: ∀g,rv'.ownBlock=some g->rv.ownBlock=some g\/w.heap.size<=g):kQ t W0 w b rv (.returned (.int .i64 0)) w':=by rw[ht];exact⟨rfl,p,rv',h,ho,hg⟩
theorem GJ{t:Option (List bG)}{W0 w w':World}{b:Nat}{rv:Value}{ec:Int}(ht:t=none)(h:ec≠0)(ho:ai [] W0 w'):kQ t W0 w b rv (.returned (.int .i64 ec)) w':=by rw[ht];exact⟨⟨ec,h,rfl⟩,ho⟩
theorem Px(W0 w:World)(b:Nat)(p:GI)(rv:Value)(L:List bG)(k v:Int)(t:ByteArray)(h:yX W0 w b p rv L)(h0:0<=v):
  Calls Tryz.prog 443 #[.pointer (some ⟨b,0,none⟩),.agg #[.int .i64 1,.int .i64 k,.int .u64 v,.string t]] w (kQ (gI L ⟨1,k,v,t⟩) W0 w b rv):=by
 have hms:gI L ⟨1,k,v,t⟩=if k=2 then some L else none:=by simp[gI,oV]
 generalize gI L ⟨1,k,v,t⟩=R at hms⊢;have hA:=(ai.refl [] w).alloc (.cells #[.int .i64 1,.int .i64 k,.int .u64 v,.string t] 100);have hM1:=h.nil' hA;have hbl:=aj h.row;obtain⟨⟨d0,d1,d2,d3⟩,-⟩:=q4 (heap_alloc_new w (.cells #[.int .i64 1,.int .i64 k,.int .u64 v,.string t] 100));have fO:=hM1.nil' ((ai.refl [] _).drew);have cT:=fV ⟨1,k,v,t⟩ b 0 (.string p.nm) _ (fO.cell 0 rfl).1 (fO.cell 0 rfl).2;replace fO:=af fO;unfold fL at cT;simp only at cT;by_cases hok:k=2
 ·rw[if_pos hok]at hms
  have hb:(k==2)=true:=by simpa using hok
  rw[hb]at cT;unfold aL at cT;change Hid _ at hms;replace cT:=af cT;clear hM1 hA h hok hb;go_enter Tryz.func443,Tryz.ntmps443
  go_wp2_with fail
  go_region_held3(fun W=>W.cell? ⟨w.heap.size,0,none⟩=some (.int .i64 1)/\W.cell? ⟨w.heap.size,1,none⟩=some (.int .i64 k)/\W.cell? ⟨w.heap.size,2,none⟩=some (.int .u64 v)/\W.cell? ⟨w.heap.size,3,none⟩=some (.string t)) (go_keep) ((go_at_call 385;(with_reducible refine cT.out.mono ?_);rintro e w2 ⟨rfl,hS⟩;have hM2:=af (fO.out.set (p':={p with nm:=t}) hS rfl);have hOb:Hid (ai (b::rv.ownBlock.toList) w w2):=af ((((ai.refl [] w).alloc (.cells #[.int .i64 1,.int .i64 k,.int .u64 v,.string t] 100)).drew.nil (S:=[b])).trans hS.own |>.mono (by simp));have lW:w2.cell? ⟨w.heap.size,0,none⟩=some (.int .i64 1)/\w2.cell? ⟨w.heap.size,1,none⟩=some (.int .i64 k)/\w2.cell? ⟨w.heap.size,2,none⟩=some (.int .u64 v)/\w2.cell? ⟨w.heap.size,3,none⟩=some (.string t):=⟨(hS.own.cell (block_lt_of_cell d0) (by simp;try omega)).trans d0,(hS.own.cell (block_lt_of_cell d1) (by simp;try omega)).trans d1,(hS.own.cell (block_lt_of_cell d2) (by simp;try omega)).trans d2,(hS.own.cell (block_lt_of_cell d3) (by simp;try omega)).trans d3⟩;clear hS))
  all_goals
   go_wp2_with fail
   go_ret
   exact Jc hms.out hM2.out hOb.out (fun g hg=>.inl hg)
 ·rw[if_neg hok]at hms
  have hb:(k==2)=false:=by
   rw[Bool.eq_false_iff];intro hh;exact hok (by simpa using hh)
  rw[hb]at cT;unfold aL at cT;change Hid _ at hms;replace cT:=af cT;clear hM1 hA h hok hb;go_enter Tryz.func443,Tryz.ntmps443
  go_wp2_with fail
  go_region_held3(fun W=>W.cell? ⟨w.heap.size,0,none⟩=some (.int .i64 1)/\W.cell? ⟨w.heap.size,1,none⟩=some (.int .i64 k)/\W.cell? ⟨w.heap.size,2,none⟩=some (.int .u64 v)/\W.cell? ⟨w.heap.size,3,none⟩=some (.string t)) (go_keep) ((go_at_call 385;(with_reducible refine cT.out.mono ?_);rintro e w2 ⟨⟨ec,ay,rfl⟩,hS⟩;have hO2:=af (fO.out.own.trans hS);replace ay:=af ay;have lW:w2.cell? ⟨w.heap.size,0,none⟩=some (.int .i64 1)/\w2.cell? ⟨w.heap.size,1,none⟩=some (.int .i64 k)/\w2.cell? ⟨w.heap.size,2,none⟩=some (.int .u64 v)/\w2.cell? ⟨w.heap.size,3,none⟩=some (.string t):=⟨(hS.cell (block_lt_of_cell d0) (by simp;try omega)).trans d0,(hS.cell (block_lt_of_cell d1) (by simp;try omega)).trans d1,(hS.cell (block_lt_of_cell d2) (by simp;try omega)).trans d2,(hS.cell (block_lt_of_cell d3) (by simp;try omega)).trans d3⟩;clear hS))
  all_goals
   go_wp2_with fail
   go_ret
   exact GJ hms.out ay.out hO2.out
theorem Py(W0 w:World)(b:Nat)(p:GI)(rv:Value)(L:List bG)(k v:Int)(t:ByteArray)(h:yX W0 w b p rv L)(h0:0<=v):
  Calls Tryz.prog 443 #[.pointer (some ⟨b,0,none⟩),.agg #[.int .i64 2,.int .i64 k,.int .u64 v,.string t]] w (kQ (gI L ⟨2,k,v,t⟩) W0 w b rv):=by
 have hms:gI L ⟨2,k,v,t⟩=if k=0/\v<=4294967295 then some L else none:=by simp[gI,oV]
 generalize gI L ⟨2,k,v,t⟩=R at hms⊢;have hA:=(ai.refl [] w).alloc (.cells #[.int .i64 2,.int .i64 k,.int .u64 v,.string t] 100);have hM1:=h.nil' hA;have hbl:=aj h.row;obtain⟨⟨d0,d1,d2,d3⟩,-⟩:=q4 (heap_alloc_new w (.cells #[.int .i64 2,.int .i64 k,.int .u64 v,.string t] 100));have fO:=hM1.nil' ((ai.refl [] _).drew);have cT:=xH ⟨2,k,v,t⟩ b 1 (.int .u32 p.ty) _ (fO.cell 1 rfl).1 (fO.cell 1 rfl).2 h0;replace fO:=af fO;unfold fL at cT;simp only at cT;by_cases hok:k=0/\v<=4294967295
 ·rw[if_pos hok]at hms
  have hb:(k==0&&decide (v<=4294967295))=true:=by simpa using hok
  rw[hb]at cT;unfold aL at cT;change Hid _ at hms;replace cT:=af cT;clear hM1 hA h hok hb;go_enter Tryz.func443,Tryz.ntmps443
  go_wp2_with fail
  go_region_held3(fun W=>W.cell? ⟨w.heap.size,0,none⟩=some (.int .i64 2)/\W.cell? ⟨w.heap.size,1,none⟩=some (.int .i64 k)/\W.cell? ⟨w.heap.size,2,none⟩=some (.int .u64 v)/\W.cell? ⟨w.heap.size,3,none⟩=some (.string t)) (go_keep) ((go_at_call 387;(with_reducible refine cT.out.mono ?_);rintro e w2 ⟨rfl,hS⟩;have hM2:=af (fO.out.set (p':={p with ty:=v}) hS rfl);have hOb:Hid (ai (b::rv.ownBlock.toList) w w2):=af ((((ai.refl [] w).alloc (.cells #[.int .i64 2,.int .i64 k,.int .u64 v,.string t] 100)).drew.nil (S:=[b])).trans hS.own |>.mono (by simp));have lW:w2.cell? ⟨w.heap.size,0,none⟩=some (.int .i64 2)/\w2.cell? ⟨w.heap.size,1,none⟩=some (.int .i64 k)/\w2.cell? ⟨w.heap.size,2,none⟩=some (.int .u64 v)/\w2.cell? ⟨w.heap.size,3,none⟩=some (.string t):=⟨(hS.own.cell (block_lt_of_cell d0) (by simp;try omega)).trans d0,(hS.own.cell (block_lt_of_cell d1) (by simp;try omega)).trans d1,(hS.own.cell (block_lt_of_cell d2) (by simp;try omega)).trans d2,(hS.own.cell (block_lt_of_cell d3) (by simp;try omega)).trans d3⟩;clear hS))
  all_goals
   go_wp2_with fail
   go_ret
   exact Jc hms.out hM2.out hOb.out (fun g hg=>.inl hg)
 ·rw[if_neg hok]at hms
  have hb:(k==0&&decide (v<=4294967295))=false:=by
   rw[Bool.eq_false_iff];intro hh;exact hok (by simpa using hh)
  rw[hb]at cT;unfold aL at cT;change Hid _ at hms;replace cT:=af cT;clear hM1 hA h hok hb;go_enter Tryz.func443,Tryz.ntmps443
  go_wp2_with fail
  go_region_held3(fun W=>W.cell? ⟨w.heap.size,0,none⟩=some (.int .i64 2)/\W.cell? ⟨w.heap.size,1,none⟩=some (.int .i64 k)/\W.cell? ⟨w.heap.size,2,none⟩=some (.int .u64 v)/\W.cell? ⟨w.heap.size,3,none⟩=some (.string t)) (go_keep) ((go_at_call 387;(with_reducible refine cT.out.mono ?_);rintro e w2 ⟨⟨ec,ay,rfl⟩,hS⟩;have hO2:=af (fO.out.own.trans hS);replace ay:=af ay;have lW:w2.cell? ⟨w.heap.size,0,none⟩=some (.int .i64 2)/\w2.cell? ⟨w.heap.size,1,none⟩=some (.int .i64 k)/\w2.cell? ⟨w.heap.size,2,none⟩=some (.int .u64 v)/\w2.cell? ⟨w.heap.size,3,none⟩=some (.string t):=⟨(hS.cell (block_lt_of_cell d0) (by simp;try omega)).trans d0,(hS.cell (block_lt_of_cell d1) (by simp;try omega)).trans d1,(hS.cell (block_lt_of_cell d2) (by simp;try omega)).trans d2,(hS.cell (block_lt_of_cell d3) (by simp;try omega)).trans d3⟩;clear hS))
  all_goals
   go_wp2_with fail
   go_ret
   exact GJ hms.out ay.out hO2.out
end Go.Proofs.YtedcakchekaemaaGreatDoor
namespace Go.Proofs.YtedcakchekaemaaGreatDoor
open Go.RowKit
variable [Kd]
theorem DZ(W0 w:World)(b:Nat)(p:GI)(rv:Value)(L:List bG)(f:bG)(h:yX W0 w b p rv L)(h1:f.num≠1)(h2:f.num≠2)(hL:L.length<=256):
  Calls Tryz.prog 443 #[.pointer (some ⟨b,0,none⟩),.agg (fL f).toArray] w (kQ (gI L f) W0 w b rv):=by
 have hms:gI L f=some (L++[f]):=by unfold gI oV;rw[if_neg h1,if_neg h2];simp[h1,h2]
 generalize gI L f=R at hms⊢;obtain⟨n,k,v,t⟩:=f;simp only at h1 h2;unfold fL;have vU:=(ai.refl [] w).alloc (.cells #[.int .i64 n,.int .i64 k,.int .u64 v,.string t] 100);have hM1:=h.nil' vU;obtain⟨⟨d0,d1,d2,d3⟩,-⟩:=q4 (heap_alloc_new w (.cells #[.int .i64 n,.int .i64 k,.int .u64 v,.string t] 100));have hfb:=heap_alloc_new w (.cells #[.int .i64 n,.int .i64 k,.int .u64 v,.string t] 100);obtain⟨ra,rc,rfl⟩:=h.out.sl;have q1:(n==1)=false:=by simpa using h1
 have q2:(n==2)=false:=by simpa using h2
 have hl1:=af (show(L.length+[(bG.mk n k v t)].length)*40<=140737488355328 by simp only[List.length_singleton];omega);have hl2:=af (show L.length+[(bG.mk n k v t)].length<=maxLen by unfold maxLen;simp only[List.length_singleton];omega);have hl3:=af (show(L++[(bG.mk n k v t)]).length=L.length+1 by simp);change Hid _ at hms hfb;replace hM1:=af hM1;have acd:=af vU;have uy:=vU.size;change Hid _ at uy;clear h h1 h2 vU;go_enter Tryz.func443,Tryz.ntmps443
 go_wp2_with fail
 clear d0 d1 d2 d3;generalize(w.alloc (.cells #[.int .i64 n,.int .i64 k,.int .u64 v,.string t] 100))=w2 at*;generalize yI:w.heap.size=fb at*;change Hid _ at yI;have hD:=hM1.out.nil' ((ai.refl [] w2).drew);obtain⟨p5,_⟩:=hD.cell 5 (u:=.slice ra L.length rc) rfl;obtain⟨⟨d0,d1,d2,d3⟩,-⟩:=q4 ((ai.refl [] w2).drew.heap hfb.out (by simp));have hA:=hM1.out.nil' (((ai.refl [] w2).alloc (.cells (fL (bG.mk n k v t)).toArray 100)).drew);obtain⟨q5,_⟩:=hA.cell 5 (u:=.slice ra L.length rc) rfl;obtain⟨⟨e0,e1,e2,e3⟩,-⟩:=q4 ((((ai.refl [] w2).alloc (.cells (fL (bG.mk n k v t)).toArray 100)).drew).heap hfb.out (by simp));have mX:=af ((aA.new (enc:=fL) (T:=100) w2 (bG.mk n k v t) 1).nil' ((ai.refl [] _).drew));replace hA:=af hA;simp only[fL]at hA q5 mX e0 e1 e2 e3;clear hD;go_region_law((go_loud(refine fu rfl (.tmp 27) (.tmp 29) (by rfl) zL hA.out.own (by rfl) hA.out.out (by rfl) mX.out hl1.out hl2.out ?_);intro va w5 hS5 hqq hg5 gW;obtain⟨a5,c5,rfl⟩:=hS5.sl;rw[hl3.out]at hS5 hg5⊢;obtain⟨⟨kC,f5⟩,om⟩:=hA.out.took hS5 gW hg5;have hOb:Hid (ai (b::(Value.slice ra L.length rc).ownBlock.toList) w (w5.setCell ⟨b,5,none⟩ (.slice a5 (L.length+1) c5))):=af ((((acd.out.nil.trans (((ai.refl [] w2).alloc _).drew.nil)).trans (gW.mono (by intro x hx;exact List.mem_cons_of_mem _ hx))).setCell (.inl (by simp)) _));have hgb:Hid (∀g,(Value.slice a5 (L.length+1) c5).ownBlock=some g->(Value.slice ra L.length rc).ownBlock=some g\/w.heap.size<=g):=af (fun g hg=>(hg5 g hg).imp id (fun h4=>Nat.le_trans (by rw[yI.out];exact uy.out) (Nat.le_trans ((ai.refl [] w2).alloc _).size h4)));replace om:=af om;clear hS5 hg5 gW hqq))
 all_goals
  go_wp2_with fail
  go_ret
  exact Jc hms.out om.out hOb.out hgb.out
theorem GK(W0 w:World)(b:Nat)(p:GI)(rv:Value)(L:List bG)(f:bG)(h:yX W0 w b p rv L)(hf:f.Ok)(hL:L.length<=256):
  Calls Tryz.prog 443 #[.pointer (some ⟨b,0,none⟩),.agg (fL f).toArray] w (kQ (gI L f) W0 w b rv):=by
 by_cases h1:f.num=1
 ·obtain⟨n,k,v,t⟩:=f
  simp only at h1;subst h1;exact Px W0 w b p rv L k v t h hf.v0
 by_cases h2:f.num=2
 ·obtain⟨n,k,v,t⟩:=f
  simp only at h2;subst h2;exact Py W0 w b p rv L k v t h hf.v0
 exact DZ W0 w b p rv L f h h1 h2 hL
theorem GL(W0 w:World)(b:Nat)(p:GI)(rv:Value)(L:List bG)(deep:Int)(h:yX W0 w b p rv L)(hL:L.length<=256)(hf: ∀f∈L,f.Ok)(hK:aN w):
  Calls Tryz.prog 442 #[.pointer (some ⟨b,0,none⟩),.int .i64 deep] w (kQ ((MU 3 false L).map fun _=>L) W0 w b rv):=by
 have cV:=wB rv L 3 false w (h.out.reads dX) hL hf (by omega) hK;obtain⟨ra,rc,rfl⟩:=h.out.sl;obtain⟨c5,_⟩:=h.cell 5 (u:=.slice ra L.length rc) rfl;unfold tK at cV;cases hv:MU 3 false L with
 |none=>
  rw[hv]at cV;replace cV:=af cV;replace h:=af h;clear hf hK;go_enter Tryz.func442,Tryz.ntmps442
  go_wp2_with fail
  refine cV.out.mono ?_;rintro e w2 ⟨⟨⟨y1,y2,y3⟩,ec,ay,rfl⟩,hO⟩;unfold PV.val;simp only;have h2:=h.out.nil' hO;obtain⟨a2,z2⟩:=h2.cell 2 (u:=.int .i64 p.v.k) rfl;obtain⟨a3,z3⟩:=h2.cell 3 (u:=.int .u64 p.v.n) rfl;obtain⟨a4,z4⟩:=h2.cell 4 (u:=.string p.v.s) rfl;have hO3:=af (((h2.own.setCell (p:=⟨b,2,none⟩) (.inr h2.base) (.int .i64 y1)).setCell (p:=⟨b,3,none⟩) (.inr h2.base) (.int .u64 y2)).setCell (p:=⟨b,4,none⟩) (.inr h2.base) (.string y3));change Hid _ at ay;clear h2 hO;go_wp2_with fail
  go_ret
  exact GJ rfl ay.out hO3.out
 |some y=>
  rw[hv]at cV;replace cV:=af cV;replace h:=af h;clear hf hK;go_enter Tryz.func442,Tryz.ntmps442
  go_wp2_with fail
  refine cV.out.mono ?_;rintro e w2 ⟨rfl,hO⟩;obtain⟨y1,y2,y3⟩:=y;unfold PV.val;simp only;have h2:=h.out.nil' hO;obtain⟨a2,z2⟩:=h2.cell 2 (u:=.int .i64 p.v.k) rfl;obtain⟨a3,z3⟩:=h2.cell 3 (u:=.int .u64 p.v.n) rfl;obtain⟨a4,z4⟩:=h2.cell 4 (u:=.string p.v.s) rfl;have h3:=h2.set (p':=⟨p.nm,p.ty,⟨y1,p.v.n,p.v.s⟩⟩) (jh.of2 (i:=2) (v:=.int .i64 y1) (ai.refl [] w2)) rfl;have h4:=h3.set (p':=⟨p.nm,p.ty,⟨y1,y2,p.v.s⟩⟩) (jh.of2 (i:=3) (v:=.int .u64 y2) (ai.refl [] _)) rfl;have hOb:=af (((((hO.nil (S:=b::(Value.slice ra L.length rc).ownBlock.toList)).setCell (p:=⟨b,2,none⟩) (.inl (by simp)) (.int .i64 y1)).setCell (p:=⟨b,3,none⟩) (.inl (by simp)) (.int .u64 y2)).setCell (p:=⟨b,4,none⟩) (.inl (by simp)) (.string y3)));have h5:=af (h4.set (p':=⟨p.nm,p.ty,⟨y1,y2,y3⟩⟩) (jh.of2 (i:=4) (v:=.string y3) (ai.refl [] _)) rfl);clear h2 hO h3 h4;go_wp2_with fail
  go_ret
  exact Jc rfl h5.out hOb.out (fun g hg=>.inl hg)
end Go.Proofs.YtedcakchekaemaaGreatDoor
