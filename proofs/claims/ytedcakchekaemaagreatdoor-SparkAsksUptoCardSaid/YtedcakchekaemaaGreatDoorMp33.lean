/- Contracts of the program, part 33. -/
import Derived.Test.YtedcakchekaemaaGreatDoorMp31
import Derived.Test.YtedcakchekaemaaGreatDoorCards
import Derived.Test.YtedcakchekaemaaGreatDoorTie
import Derived.PinnedBridge
import Derived.Lib.LaidU8T
import Derived.Deep.DeepWitnessRowRef
import Derived.ProofKit
import Derived.Test.YtedcakchekaemaaGreatDoorMp30
import Derived.Test.YtedcakchekaemaaGreatDoorMp32
set_option maxRecDepth 100000
set_option maxHeartbeats 16000000
set_option linter.all false
namespace Go.Proofs.YtedcakchekaemaaGreatDoor
open Go.RowKit
variable [Kd]
def FK(r:Option wN)(w:World)(e:Ending)(w':World):Prop:=
 match r with
 |some p=>(∃q:iI,(q.t=p.t/\q.h=p.h/\q.s=p.s/\q.u=p.u/\q.b=p.b/\q.M.map bW.pl=p.M)/\0<=q.s/\e=.returned (.tuple #[q.val,.int .i64 0])/\eF w' q.a q.M/\q.M.length<=64/\ ∀g,(Value.slice q.a q.M.length q.c).ownBlock=some g->w.heap.size<=g)/\ai [] w w'
 |none=>(∃ec:Int,ec≠0/\e=.returned (.tuple #[.agg #[.int .u64 0,.bool false,.int .u64 0,.string ⟨#[]⟩,.string ⟨#[]⟩,.slice none 0 0],.int .i64 ec]))/\ai [] w w'
theorem vT{r:Option wN}{w w':World}{ec:Int}(h:r=none)(aD:ec≠0)(ho:ai [] w w'):FK r w (.returned (.tuple #[.agg #[.int .u64 0,.bool false,.int .u64 0,.string ⟨#[]⟩,.string ⟨#[]⟩,.slice none 0 0],.int .i64 ec])) w':=by subst h;exact⟨⟨ec,aD,rfl⟩,ho⟩
theorem Sc{l:List bN}(hf: ∀f∈l,f.Ok): ∀p:wN,0<=p.s->0<=(l.foldl gD p).s:=by
 induction l with
 |nil=>intro p h;exact h
 |cons f r ih=>
  intro p h;rw[List.foldl_cons];refine ih (fun x hx=>hf x (by simp[hx])) _ ?_;have:=(hf f (by simp)).v0;unfold gD;split
  ·exact h
  ·split
   ·exact this
   ·split
    ·exact h
    ·split<;>exact h
theorem Sd(l:List bN): ∀p:wN,(l.foldl gD p).M=p.M:=by
 induction l with
 |nil=>intro p;rfl
 |cons f r ih=>
  intro p;rw[List.foldl_cons,ih];unfold gD
  repeat' split
  all_goals rfl
theorem Js{A:List bN}{k:Nat}(hk:k<A.length){L:List PM}{R:Option (List PM)}(h:R=(tT (A.drop k)).map (fun r=>L++r)):
  (O6 8 (ak A[k].text)=none->R=none)/\ ∀m,O6 8 (ak A[k].text)=some m->R=(tT (A.drop (k+1))).map (fun r=>(L++[m])++r):=by
 rw[List.drop_eq_getElem_cons hk,tT]at h;refine⟨fun hn=>by rw[h,hn];rfl,fun m hm=>?_⟩;rw[h,hm];cases tT (A.drop (k+1))with
 |none=>rfl
 |some r=>simp
theorem WE{base:Nat}{w:World}{a:Option Addr}{c:Nat}{L:List bW}(h:Sl 109 bW.cells 15 base w (.slice a L.length c) L)(hl:L.length<=64)(hg: ∀x∈L,x.wf):eF w a L:=by
 rcases h.form with⟨h1,h2⟩|⟨g,cap,h1,_,h3⟩
 ·rw[h2];exact bY.empty _ _
 ·cases h1
  exact bY.of_row h3 bW.cells_len (by omega) hg
structure PoJ (A:List bN) (k:Nat) (L:List bW) (R:Option (List PM)):Prop where
 len:L.length=k
 wf: ∀x∈L,x.wf
 now:R=(tT (A.drop k)).map (fun r=>L.map bW.pl++r)
theorem Sg(s:ByteArray)(w:World)(hs:s.size<=140737488351232)(hK:aS w): ∃w1 c,(convert 9 23 (.string s)).run Tryz.prog w=.ok (.slice (some ⟨w.heap.size,0,none⟩) s.size c) w1/\ai [] w w1/\
  Calls Tryz.prog 94 #[.slice (some ⟨w.heap.size,0,none⟩) s.size c] w1 (FK (Qn (ak s)) w):=by
 obtain⟨w0,c,h1,hR,hcp,iE,hsz0⟩:=oJ s w;refine⟨w0,c,h1,iE,?_⟩;clear h1;obtain⟨ok,hok⟩: ∃ok,Qn (ak s)=ok:=⟨_,rfl⟩;rw[hok];unfold Qn at hok;have hA:=(ai.refl [] w0).alloc (.cells #[.int .u64 0,.bool false,.int .u64 0,.string ⟨#[]⟩,.string ⟨#[]⟩,.slice none 0 0] 54);have gL:=heap_alloc_new w0 (.cells #[.int .u64 0,.bool false,.int .u64 0,.string ⟨#[]⟩,.string ⟨#[]⟩,.slice none 0 0] 54);have cW:=af (vI _ _ _ (hR.nil' hA) (fun b hb=>by simp[Value.ownBlock]at hb;simp;omega) hcp (bU s) (by rw[dX];exact hs));have XU:=iE.trans hA;have hwr:Hid (w.heap.size<=w0.heap.size):=af iE.size;have Lb:=af hK;clear hR hcp hsz0 hK hs iE;go_enter Tryz.func94,Tryz.ntmps94
 go_wp2_with fail
 refine cW.out.mono ?_;intro e w2 hp;clear cW;generalize hrb:w0.heap.size=rb at*;change Hid _ at hrb;cases hw:uH (ak s)with
 |none=>
  rw[hw]at hp hok;simp only at hok;obtain⟨⟨ec,aD,rfl⟩,hO2⟩:=hp;have aK:=af hok.symm;have hOr:=XU.trans hO2;have hres:=hO2.heap gL (by simp;try omega);have q:(ec !=0)=true:=by simpa using aD
  change Hid _ at aD;obtain⟨u0,u1,u2,u3,u4,u5,_⟩:=R8 hres;obtain⟨r0,r1,r2,r3,r4,r5⟩:=xV hres;obtain⟨hs3,aO⟩:=R9 hres (.int .u64 0) (.bool false) (.int .u64 0) (.string ⟨#[]⟩) (.string ⟨#[]⟩) (.slice none 0 0);change Hid _ at hs3;replace aO:=af (hOr.trans' aO (fun x hx=>.inr (by simp at hx;subst hx;exact hwr.out)));clear hres hOr hA XU gL hO2 hok hw;go_wp2_with fail
  obtain⟨g0,g1,g2,g3,g4,g5⟩:=xV hs3.out;exact bodyPost_ret (v:=.tuple #[.agg #[.int .u64 0,.bool false,.int .u64 0,.string ⟨#[]⟩,.string ⟨#[]⟩,.slice none 0 0],.int .i64 ec]) (by simp[results,Tryz.results94,go_sem,g0,g1,g2,g3,g4,g5];try rfl) rfl (vT aK.out aD.out aO.out)
 |some l=>
  rw[hw]at hp hok;simp only at hok;obtain⟨⟨aY,rfl,hS⟩,hO2⟩:=hp;obtain⟨hll,hf⟩:=nS (bU s) hw;have uO:=hS.reads eT;have cP:=Jr aY l w2 uO hll;have af5:=af uO;have aaZ:=af (XU.trans hO2);have hres2:=af (hO2.heap gL (by simp;try omega));obtain⟨va,vc,rfl⟩:=hS.sl;have hs0:=af (Sc hf WC (by decide));have hM0:=af (Sd l WC);have hfA:=af (fun f hf'=>((vJ hf 2) f hf').t);unfold lI at cP;clear hw hS hA gL XU hO2 uO hf;cases hall:l.all ji with
  |false=>
   rw[hall]at cP hok;simp only[if_true]at hok;have aK:=af hok.symm;replace cP:=af cP;clear hok hall;go_wp2_with fail
   refine cP.out.mono ?_;rintro e w3 ⟨⟨ec,aD,rfl⟩,hO3⟩;have hOr:=(aaZ.out.trans hO3).alloc (.cells #[.int .u64 0,.bool false,.int .u64 0,.string ⟨#[]⟩,.string ⟨#[]⟩,.slice none 0 0] 54);have hres:=((ai.refl [] w3).alloc (.cells #[.int .u64 0,.bool false,.int .u64 0,.string ⟨#[]⟩,.string ⟨#[]⟩,.slice none 0 0] 54)).heap (hO3.heap hres2.out (by simp)) (by simp);have q:(ec !=0)=true:=by simpa using aD
   change Hid _ at aD;clear cP hO3;go_upto_region 5 with(fail)
   generalize(w3.alloc (.cells #[.int .u64 0,.bool false,.int .u64 0,.string ⟨#[]⟩,.string ⟨#[]⟩,.slice none 0 0] 54))=w4 at*;generalize w3.heap.size=pb at*;obtain⟨u0,u1,u2,u3,u4,u5,_⟩:=R8 hres;obtain⟨r0,r1,r2,r3,r4,r5⟩:=xV hres;obtain⟨hs3,aO⟩:=R9 hres (.int .u64 0) (.bool false) (.int .u64 0) (.string ⟨#[]⟩) (.string ⟨#[]⟩) (.slice none 0 0);change Hid _ at hs3;replace aO:=af (hOr.trans' aO (fun x hx=>.inr (by simp at hx;subst hx;exact hwr.out)));clear hres hOr;go_wp2_with fail
   obtain⟨g0,g1,g2,g3,g4,g5⟩:=xV hs3.out;exact bodyPost_ret (v:=.tuple #[.agg #[.int .u64 0,.bool false,.int .u64 0,.string ⟨#[]⟩,.string ⟨#[]⟩,.slice none 0 0],.int .i64 ec]) (by simp[results,Tryz.results94,go_sem,g0,g1,g2,g3,g4,g5];try rfl) rfl (vT aK.out aD.out aO.out)
  |true=>
   rw[hall]at cP hok;simp only[Bool.true_eq_false,if_false]at hok;generalize hpp:l.foldl gD WC=p at*;have hok2:(if 64<(bA l 2).length then none else(tT (bA l 2)).map fun M=>{p with M:=M})=ok:=by rw[<-hok,<-hpp];rfl
   replace cP:=af cP;clear hok hall hpp;unfold WB at cP;go_wp2_with fail
   refine cP.out.mono ?_;rintro e w3 ⟨rfl,hO3⟩;have hO4:=af ((aaZ.out.trans hO3).alloc (.cells #[.int .u64 p.t,.bool p.h,.int .u64 p.s,.string p.u,.string p.b,.slice none 0 0] 54));have sZ:=(ai.refl [] w3).alloc (.cells #[.int .u64 p.t,.bool p.h,.int .u64 p.s,.string p.u,.string p.b,.slice none 0 0] 54);have ul:=af (sZ.heap (hO3.heap hres2.out (by simp)) (by simp));have hpb:=af (heap_alloc_new w3 (.cells #[.int .u64 p.t,.bool p.h,.int .u64 p.s,.string p.u,.string p.b,.slice none 0 0] 54));have cA:=af (rF _ l 2 _ (af5.out.nil' (hO3.trans sZ)) hll);have hwp:w.heap.size<=w3.heap.size:=Nat.le_trans aaZ.out.size hO3.size;have Le:rb<w3.heap.size:=aj (hO3.heap hres2.out (by simp));change Hid _ at hwp Le;clear cP hO3 sZ;go_upto_region 7 with(fail)
   generalize(w3.alloc (.cells #[.int .u64 p.t,.bool p.h,.int .u64 p.s,.string p.u,.string p.b,.slice none 0 0] 54))=w4 at*;generalize w3.heap.size=pb at*;go_wp2_with fail
   refine cA.out.mono ?_;rintro e w5 ⟨K4,rfl,OX,aF⟩;generalize J8:bA l 2=A at*;have hvA: ∀g,K4.ownBlock=some g->g<w5.heap.size/\g≠pb:=fun g hg=>by
    have h1:=OX.block hg;have h2:=aj hpb.out;exact⟨h1.2,by omega⟩
   have uU:=af (OX.reads eT);have aX:=aF.heap ul.out (by simp);have Yt:=aF.heap hpb.out (by simp);have UN:=hO4.out.trans aF;obtain⟨na,nc,rfl⟩:=OX.sl;change Hid _ at hvA;clear cA OX aF J8 hpb ul;by_cases h64:64<A.length
   ·rw[if_pos h64]at hok2
    have aK:=af hok2.symm;have q64:(64:Int)<A.length:=by omega
    have hres:=aX;have hOr:=UN;obtain⟨u0,u1,u2,u3,u4,u5,_⟩:=R8 hres;obtain⟨r0,r1,r2,r3,r4,r5⟩:=xV hres;obtain⟨hs3,aO⟩:=R9 hres (.int .u64 0) (.bool false) (.int .u64 0) (.string ⟨#[]⟩) (.string ⟨#[]⟩) (.slice none 0 0);change Hid _ at hs3;replace aO:=af (hOr.trans' aO (fun x hx=>.inr (by simp at hx;subst hx;exact hwr.out)));clear hres hOr hok2 h64 aX UN Yt;go_wp2_with fail
    obtain⟨g0,g1,g2,g3,g4,g5⟩:=xV hs3.out;exact bodyPost_ret (v:=.tuple #[.agg #[.int .u64 0,.bool false,.int .u64 0,.string ⟨#[]⟩,.string ⟨#[]⟩,.slice none 0 0],.int .i64 6]) (by simp[results,Tryz.results94,go_sem,g0,g1,g2,g3,g4,g5];try rfl) rfl (vT aK.out (by decide) aO.out)
   rw[if_neg h64]at hok2;have q64: ¬(64:Int)<A.length:=by omega
   obtain⟨R,hRR⟩: ∃R,tT A=R:=⟨_,rfl⟩;rw[hRR]at hok2;have hlp:pb<w5.heap.size:=aj Yt;have hJ0:jl 109 bW.cells 15 w5 w5 pb #[.int .u64 p.t,.bool p.h,.int .u64 p.s,.string p.u,.string p.b,.slice none 0 0] 54 5 (.slice none 0 0) ([]:List bW):=⟨ai.refl _ _,Yt,hlp,by simp,Sl.nil _ _ _⟩;have uV:PoJ A 0 [] R:=⟨rfl,by simp,by rw[List.drop_zero,hRR];cases R<;>simp⟩;have aa0:=af (Nat.not_lt.1 h64);change Hid _ at hJ0 uV hok2;have af7:=af UN.size;have af8:Hid (rb<w5.heap.size):=af (aj aX);have af9:Hid (∀W,ai [pb] w5 W->ai [] w W/\W.heap[rb]?=some (.cells #[.int .u64 0,.bool false,.int .u64 0,.string ⟨#[]⟩,.string ⟨#[]⟩,.slice none 0 0] 54 (0,0))):=af fun W h=>⟨UN.trans' h (fun x hx=>.inr (by simp at hx;subst hx;exact hwp.out)),h.heap aX (by have:=Le.out;simp;omega)⟩
   clear hRR hlp h64 Yt aX UN;go_wp2_with fail
   go_loopg[38] A.length (fun gg s38 wr=> ∃(k:Nat) (v:Value) (L:List bW),k<=A.length/\gg=A.length-k/\s38=.int .i64 k/\Aside (jl 109 bW.cells 15 w5 wr pb #[.int .u64 p.t,.bool p.h,.int .u64 p.s,.string p.u,.string p.b,.slice none 0 0] 54 5 v L/\PoJ A k L R))
   case atStart=>exact⟨0,_,[],by omega,by omega,rfl,hJ0.out,uV.out⟩
   case round=>
    obtain⟨k,v,L,hk,rfl,rfl,hJ,hP⟩:=hrel;have k0:(0:Int)<=k:=by omega
    obtain⟨ua,uc,rfl⟩:=hJ.r.sl;obtain⟨hPo,BU⟩:=af9.out wr hJ.own;by_cases hlt:k<A.length
    ·have k1:(k:Int)<A.length:=by omega
     have hwk:IntKind.i64.wrap ((k:Int)+1)=(k:Int)+1:=IntWalk.i64_in _ (by have:=aa0.out;omega);obtain⟨b1,o1,rfl,c0,c1,c2,c3⟩:=(uU.out.own hJ.own (fun g hg=>by simpa using(hvA.out g hg).2)).fld hlt;have hsz:=hfA.out A[k] (List.getElem_mem hlt);obtain⟨UO,UQ⟩:=Js hlt hP.now;generalize A[k]=f at*;have Gq:=(ai.refl [] wr).alloc (.cells (fL f).toArray 100);have Dp:=heap_alloc_new wr (.cells (fL f).toArray 100);obtain⟨w6,c6,hcv,bI,cM⟩:=WA f.text (wr.alloc (.cells (fL f).toArray 100)) hsz (Lb.out.own (hPo.trans Gq));have hLk:L.length<=63:=by have:=hP.len;have:=aa0.out;omega
     have hl1:=af (show(L.length+1)*176<=140737488355328 by omega);have hl2:=af (show L.length+1<=maxLen by unfold maxLen;omega);obtain⟨n,kd,val,txt⟩:=f;unfold fL at*;simp only at*;obtain⟨⟨d0,d1,d2,d3⟩,-⟩:=q4 Dp;have Yg:=af (hJ.nil' Gq);have UR:=Gq.heap BU (by simp);have aa1:=hPo.trans Gq;have OE:=af hP.len;have hPw:=af hP.wf;change Hid _ at UO UQ;replace cM:=af cM;clear hJ hP hPo BU hJ0 uV Gq bI hLk Dp;go_upto_region 13 with(fail)
     generalize(wr.alloc (.cells #[.int .i64 n,.int .i64 kd,.int .u64 val,.string txt] 100))=w7 at*;generalize wr.heap.size=fb at*;clear c0 c1 c2 c3;go_wp2_with fail
     refine cM.out.mono ?_;intro e w8 Vg;clear hcv cM;cases hm:O6 8 (ak txt)with
     |none=>
      rw[hm]at Vg;obtain⟨⟨⟨x1,x2,x3,x4,x5,x6,x7,x8,⟨y1,y2,y3⟩,⟨y4,y5,y6⟩,x9,x10,qQ,⟨y7,y8,y9⟩,⟨yD,yE,yF⟩⟩,ec,aD,rfl⟩,gV⟩:=Vg;unfold bW.val bW.cells;simp only;have aK:ok=none:=by
       have:=hok2.out;rw[UO.out hm]at this;exact this.symm
      change Hid _ at aK;have hOr:=(aa1.trans gV).alloc (.cells #[.string x1,.bool x2,.int .u64 x3,.int .u64 x4,.int .u32 x5,.bool x6,.bool x7,.bool x8,.slice y1 y2 y3,.slice y4 y5 y6,.int .i64 x9,.int .u64 x10,.string qQ,.slice y7 y8 y9,.slice yD yE yF] 109);have hres:=((ai.refl [] w8).alloc (.cells #[.string x1,.bool x2,.int .u64 x3,.int .u64 x4,.int .u32 x5,.bool x6,.bool x7,.bool x8,.slice y1 y2 y3,.slice y4 y5 y6,.int .i64 x9,.int .u64 x10,.string qQ,.slice y7 y8 y9,.slice yD yE yF] 109)).heap (gV.heap UR (by simp)) (by simp);have q:(ec !=0)=true:=by simpa using aD
      change Hid _ at aD;clear UO UQ UR aa1 gV hm d0 d1 d2 d3 Yg;go_upto_region 14 with(fail)
      generalize(w8.alloc (.cells #[.string x1,.bool x2,.int .u64 x3,.int .u64 x4,.int .u32 x5,.bool x6,.bool x7,.bool x8,.slice y1 y2 y3,.slice y4 y5 y6,.int .i64 x9,.int .u64 x10,.string qQ,.slice y7 y8 y9,.slice yD yE yF] 109))=w9 at*;generalize w8.heap.size=qb at*;obtain⟨u0,u1,u2,u3,u4,u5,_⟩:=R8 hres;obtain⟨r0,r1,r2,r3,r4,r5⟩:=xV hres;obtain⟨hs3,aO⟩:=R9 hres (.int .u64 0) (.bool false) (.int .u64 0) (.string ⟨#[]⟩) (.string ⟨#[]⟩) (.slice none 0 0);change Hid _ at hs3;replace aO:=af (hOr.trans' aO (fun x hx=>.inr (by simp at hx;subst hx;exact hwr.out)));clear hres hOr;go_wp2_with fail
      obtain⟨g0,g1,g2,g3,g4,g5⟩:=xV hs3.out;exact bodyPost_ret (v:=.tuple #[.agg #[.int .u64 0,.bool false,.int .u64 0,.string ⟨#[]⟩,.string ⟨#[]⟩,.slice none 0 0],.int .i64 ec]) (by simp[results,Tryz.results94,go_sem,g0,g1,g2,g3,g4,g5];try rfl) rfl (vT aK.out aD.out aO.out)
     |some m=>
      rw[hm]at Vg;obtain⟨⟨⟨x1,x2,x3,x4,x5,x6,x7,x8,⟨y1,y2,y3⟩,⟨y4,y5,y6⟩,x9,x10,qQ,⟨y7,y8,y9⟩,⟨yD,yE,yF⟩⟩,hpl,hwf,rfl⟩,gV⟩:=Vg;unfold bW.val bW.cells;simp only;have hst:=af (UQ.out m hm);have hA9:=(ai.refl [] w8).alloc (.cells #[.string x1,.bool x2,.int .u64 x3,.int .u64 x4,.int .u32 x5,.bool x6,.bool x7,.bool x8,.slice y1 y2 y3,.slice y4 y5 y6,.int .i64 x9,.int .u64 x10,.string qQ,.slice y7 y8 y9,.slice yD yE yF] 109);have hJ9:=(Yg.out.nil' gV).nil' hA9;have hq9:=heap_alloc_new w8 (.cells #[.string x1,.bool x2,.int .u64 x3,.int .u64 x4,.int .u32 x5,.bool x6,.bool x7,.bool x8,.slice y1 y2 y3,.slice y4 y5 y6,.int .i64 x9,.int .u64 x10,.string qQ,.slice y7 y8 y9,.slice yD yE yF] 109);change Hid _ at hpl hwf;clear UO UQ UR aa1 gV hm d0 d1 d2 d3 Yg hA9;go_upto_region 14 with(fail)
      generalize(w8.alloc (.cells #[.string x1,.bool x2,.int .u64 x3,.int .u64 x4,.int .u32 x5,.bool x6,.bool x7,.bool x8,.slice y1 y2 y3,.slice y4 y5 y6,.int .i64 x9,.int .u64 x10,.string qQ,.slice y7 y8 y9,.slice yD yE yF] 109))=w9 at*;generalize w8.heap.size=qb at*;obtain⟨j5,_⟩:=hJ9.cell;obtain⟨a0,a1,a2,a3,a4,a5,a6,a7,a8,a9,J9,Ka,a12,a13,a14⟩:=KH hq9;have aa2:=af (hJ9.nil' ((ai.refl [] w9).alloc (.cells #[.string x1,.bool x2,.int .u64 x3,.int .u64 x4,.int .u32 x5,.bool x6,.bool x7,.bool x8,.slice y1 y2 y3,.slice y4 y5 y6,.int .i64 x9,.int .u64 x10,.string qQ,.slice y7 y8 y9,.slice yD yE yF] 109)));have mR:=af (aG.new (enc:=bW.cells) (T:=109) w9 ⟨x1,x2,x3,x4,x5,x6,x7,x8,⟨y1,y2,y3⟩,⟨y4,y5,y6⟩,x9,x10,qQ,⟨y7,y8,y9⟩,⟨yD,yE,yF⟩⟩ 1);simp only[bW.cells]at mR;clear hJ9 hq9;go_wp2_with(at_builtin;refine aT rfl (.tmp 54) (.tmp 56) rfl KR (jV _) rfl aa2.out.bare rfl mR.out (by have hq:=hl1.out;simp only[List.length_singleton];exact hq) (by have hq:=hl2.out;simp only[List.length_singleton];exact hq) ?_;intro va9 Y8 Dr _ _ adt adu;obtain⟨aa,ca9,rfl⟩:=Dr.sl;obtain⟨⟨kC,f5⟩,aa3⟩:=aa2.out.add (aa2.out.up Dr adt) adu;replace aa3:=af aa3;clear Dr adt adu)
      go_roundg(A.length-(k+1))
      case measure=>omega
      case rel=>
       refine⟨k+1,_,L++[⟨x1,x2,x3,x4,x5,x6,x7,x8,⟨y1,y2,y3⟩,⟨y4,y5,y6⟩,x9,x10,qQ,⟨y7,y8,y9⟩,⟨yD,yE,yF⟩⟩],by omega,rfl,by simp,by have hh:=aa3.out;rw[List.length_append]at hh;exact hh,by simp[OE.out],fun y hy=>?_,?_⟩
       ·rcases List.mem_append.1 hy with h|h
        ·exact hPw.out y h
        ·rw[List.mem_singleton]at h;subst h;exact hwf.out
       ·have:=hst.out
        rw[<-hpl.out]at this;simpa using this
    ·have k1: ¬(k:Int)<A.length:=by omega
     have tF:=hP.now;rw[List.drop_eq_nil_of_le (by omega)]at tF;have jm:ok=some {p with M:=L.map bW.pl}:=by
      rw[<-hok2.out,tF];simp[tT]
     have Yu:L.length<=64:=by have:=hP.len;have:=aa0.out;omega
     have hwf:=hP.wf;have mJ:=hJ.r;have hrow:=hJ.row;have hbg:=fun g hg=>(hJ.r.block (g:=g) hg).1
     simp only[List.setIfInBounds_toArray,List.set_cons_succ,List.set_cons_zero]at hrow;obtain⟨e0,e1,e2,e3,e4,e5⟩:=xV hrow;obtain⟨u0,u1,u2,u3,u4,u5,_⟩:=R8 BU;obtain⟨r0,r1,r2,r3,r4,r5⟩:=xV BU;obtain⟨hs3,aO⟩:=R9 BU (.int .u64 p.t) (.bool p.h) (.int .u64 p.s) (.string p.u) (.string p.b) (.slice ua L.length uc);have Za:=af (WE (mJ.own aO (fun g hg=>by have h1:=hbg g hg;have h2:=af8.out;simp;omega)) Yu hwf);change Hid _ at hs3;replace aO:=af (hPo.trans' aO (fun x hx=>.inr (by simp at hx;subst hx;exact hwr.out)));change Hid _ at hbg jm Yu;generalize hnL:L.length=nL at*;change Hid _ at hnL;clear hJ hP hJ0 uV hrow mJ hPo BU tF hwf hok2;go_wp2_with fail
     obtain⟨g0,g1,g2,g3,g4,g5⟩:=xV hs3.out;refine bodyPost_ret (v:=.tuple #[.agg #[.int .u64 p.t,.bool p.h,.int .u64 p.s,.string p.u,.string p.b,.slice ua nL uc],.int .i64 0]) (by simp[results,Tryz.results94,go_sem,g0,g1,g2,g3,g4,g5];try rfl) rfl ?_;have aga:=hnL.out;subst aga;rw[jm.out];exact⟨⟨⟨p.t,p.h,p.s,p.u,p.b,ua,L,uc⟩,⟨rfl,rfl,rfl,rfl,rfl,rfl⟩,hs0.out,rfl,Za.out,Yu.out,fun g hg=>Nat.le_trans af7.out (hbg.out g hg)⟩,aO.out⟩
end Go.Proofs.YtedcakchekaemaaGreatDoor
namespace Go.Proofs.YtedcakchekaemaaGreatDoor
open Go.RowKit Go.Lib
def sF{H:Type}(ss:List ByteArray):DataW H:=.agg (ss.map fun s=>.lit (.string s.data.toList))
theorem Ae{H:Type}{enc:TypeId×Value->H}{P:Program}{w:World}{base:Nat}{sp:Nat->Bool}{held:Bool}{fuel:Nat}{t e:TypeId}{n:Nat}{cs:List Value}{ss:List ByteArray}{p:List MemPlace}
  (ht:P.underlying t=some (.array n e))(he:P.underlying e=some .string)(hce:P.cellsOf e=1)(hct:P.cellsOf t=n)
  (h:DataW.trod enc P w base sp held fuel t cs=some (sF ss,p)):cs=ss.map Value.string:=by
 cases fuel with
 |zero=>simp[DataW.trod]at h
 |succ fuel=>
  simp only[DataW.trod,ht,hce,hct,Nat.mul_one]at h;split at h
  ·rename_i hl
   obtain⟨xs,hm,hx⟩:=Option.map_eq_some_iff.1 h;have hxs:xs.map (·.1)=ss.map fun s=>(DataW.lit (.string s.data.toList):DataW H):=by
    have:=congrArg Prod.fst hx;simpa[sF]using this
   have hxl:xs.length=n:=by simpa using mapM_length hm
   have hzl:ss.length=n:=by
    have:=congrArg List.length hxs;simp at this;omega
   apply List.ext_getElem?;intro i;by_cases hi:i<n
   ·obtain⟨b,hb,hf⟩:=mapM_at hm i i (by simp[hi])
    obtain⟨z,hc,rfl,_⟩:=DataW.trod_string he hf;have h1:cs[i]?=some (.string z):=by
     have:=congrArg (·[0]?) hc;simpa[List.getElem?_take,List.getElem?_drop]using this
    have h2:(xs.map (·.1))[i]?=some (DataW.lit (.string z.data.toList):DataW H):=by simp[hb]
    rw[hxs]at h2;simp only[List.getElem?_map,Option.map_eq_some_iff,DataW.lit.injEq,Lit.string.injEq]at h2;obtain⟨z',hz',e⟩:=h2;have:z'=z:=ByteArray.ext (Array.ext' e);subst this;simp[h1,hz']
   ·rw[List.getElem?_eq_none (by omega),List.getElem?_eq_none (by simp;omega)]
  ·cases h
end Go.Proofs.YtedcakchekaemaaGreatDoor
namespace Go.Proofs.YtedcakchekaemaaGreatDoor
namespace BV
theorem ZY{H:Type}(d:DataW H):1<=Rows.uptoBulk d:=by
 cases d with
 |lit l=>cases l<;>simp[Rows.uptoBulk]
 |nil=>simp[Rows.uptoBulk]
 |ptr d=>simp[Rows.uptoBulk]
 |slice elems spare=>simp[Rows.uptoBulk]
 |agg parts=>simp[Rows.uptoBulk]
 |iface t d=>simp[Rows.uptoBulk]
 |map entries=>simp[Rows.uptoBulk]
 |held h=>simp[Rows.uptoBulk]
theorem part_le{H:Type}{d:DataW H}{l:List (DataW H)}(h:d∈l):Rows.uptoBulk d<=Rows.uptoBulkAll l:=by
 induction l with
 |nil=>cases h
 |cons x r ih=>
  simp only[Rows.uptoBulkAll];cases List.mem_cons.1 h with
  |inl e=>subst e;omega
  |inr e=>have:=ih e;omega
theorem length_le{H:Type}(l:List (DataW H)):l.length<=Rows.uptoBulkAll l:=by
 induction l with
 |nil=>simp[Rows.uptoBulkAll]
 |cons x r ih=>have:=ZY x;simp only[Rows.uptoBulkAll,List.length_cons];omega
end BV
end Go.Proofs.YtedcakchekaemaaGreatDoor
namespace Go.Proofs.YtedcakchekaemaaGreatDoor
open Go.RowKit Go.ChangeShapes Go.WideShapes
def ab9{α:Type}(cells:α->List Value)(sz:Nat)(w:World)(a:Option Addr)(len:Nat)(ms:Nat->α):Prop:=
 len<=maxLen/\(0<len-> ∃b o,a=some ⟨b,o,none⟩/\b<w.heap.size/\ ∀i,i<len-> ∀j v,(cells (ms i))[j]?=some v->w.cell? ⟨b,o+i*sz+j,none⟩=some v)
section
variable {H : Type} {enc : TypeId × Value → H} {P : Program} {w : World} {base : Nat} {spare : Nat → Bool} {held : Bool}
theorem qI{g:TypeId->Option (List CK)}{n:Nat}{cs:List Value}{B:Nat}
  (hg: ∀t ks cs' x,g t=some ks->DataW.trod enc P w base spare held n t cs'=some x-> ∀(i:Nat) (s:ByteArray),cs'[i]?=some (.string s)->s.size<=Rows.uptoBulk x.1):
  ∀(fs:List Field) (off:Nat) (ks:List CK),ig P g off fs=some ks->
   (∀f∈fs,∃x,DataW.trod enc P w base spare held n f.type ((cs.drop f.offset).take (P.cellsOf f.type))=some x/\Rows.uptoBulk x.1<=B)->
   ∀(i:Nat) (s:ByteArray),i<ks.length->cs[off+i]?=some (.string s)->s.size<=B
 | [],off,ks,h,_,i,s,hi,_=>by simp[ig]at h;subst h;simp at hi
 |f::r,off,ks,h,hx,i,s,hi,hv=>by
  unfold ig at h;split at h
  ·rename_i l hl
   split at h
   ·rename_i hc
    obtain⟨rest,hrest,rfl⟩:=Option.map_eq_some_iff.1 h;obtain⟨x,hx0,hxB⟩:=hx f (by simp);simp only[List.length_append]at hi;by_cases hil:i<l.length
    ·refine Nat.le_trans (hg _ _ _ _ hl hx0 i s ?_) hxB
     rw[hc.1,hc.2,List.getElem?_take_of_lt hil,List.getElem?_drop];exact hv
    ·refine qI hg r (off+l.length) rest hrest (fun f' hf'=>hx f' (by simp[hf'])) (i-l.length) s (by omega) ?_
     rw[show off+l.length+(i-l.length)=off+i by omega];exact hv
   ·cases h
  ·cases h
theorem BH: ∀(n:Nat) {t:TypeId} {ks:List CK} {fuel:Nat} {cs:List Value} {x:DataW H×List MemPlace},flat P n t=some ks->DataW.trod enc P w base spare held fuel t cs=some x->
  ∀(i:Nat) (s:ByteArray),cs[i]?=some (.string s)->s.size<=Rows.uptoBulk x.1
 |0,t,ks,fuel,cs,x,h,_=>by simp[flat]at h
 |n+1,t,ks,fuel,cs,x,h,hx=>by
  have hfit:=wG (n+1) h hx;unfold flat at h;split at h
  ·rename_i hu
   obtain⟨b,rfl,_⟩:=DataW.trod_bool hu hx;intro i s hs
   match i,hs with
   |0,hs=>simp at hs
   |i+1,hs=>simp at hs
  ·rename_i k0 hu
   obtain⟨m,rfl,_,hw⟩:=DataW.trod_int hu hx;intro i s hs
   match i,hs with
   |0,hs=>simp at hs
   |i+1,hs=>simp at hs
  ·rename_i hu
   obtain⟨s0,rfl,rfl,_⟩:=DataW.trod_string hu hx;intro i s hs
   match i,hs with
   |0,hs=>
    simp at hs;subst hs;simp only[Rows.uptoBulk,Array.length_toList];exact Nat.le_succ _
   |i+1,hs=>simp at hs
  ·rename_i e0 hu
   intro i s hs;cases h;obtain⟨hl,hf⟩:=hfit
   match i,hs with
   |0,hs=>obtain⟨a,n',c,e⟩:=hf 0 _ _ rfl hs;cases e
   |i+1,hs=>rw[List.getElem?_eq_none (by rw[hl];simp)]at hs;cases hs
  ·rename_i fs hu
   split at h
   ·rename_i l hl
    split at h
    ·rename_i hc
     obtain rfl:l=ks:=Option.some.inj h;obtain⟨xs,m,_,rfl,hlen,hxs,hf⟩:=DataW.trod_struct hu hx;intro i s hs;have hil:i<l.length:=by rw[<-hc,<-hlen];exact(List.getElem?_eq_some_iff.1 hs).1
     refine qI (n:=m) (cs:=cs) (g:=flat P n) (B:=Rows.uptoBulk (.agg (xs.map (·.1)))) (fun t ks cs' x h1 h2=>BH n h1 h2) fs.toList 0 l hl ?_ i s hil (by rw[Nat.zero_add];exact hs);intro f hfm;obtain⟨j,hj⟩:=List.getElem?_of_mem hfm;have hj':fs[j]?=some f:=by simpa using hj
     have hjl:j<xs.length:=by
      rw[hxs];exact(Array.getElem?_eq_some_iff.1 hj').1
     refine⟨xs[j],by rw[hf j f hj',List.getElem?_eq_getElem hjl],?_⟩;have:=BV.part_le (d:=xs[j].1) (l:=xs.map (·.1)) (List.mem_map.2 ⟨xs[j],List.getElem_mem hjl,rfl⟩);simp only[Rows.uptoBulk];omega
    ·cases h
   ·cases h
  ·cases h
end
theorem Oa{α:Type}[Inhabited α]{cells:α->List Value}{sz n:Nat}{t e:TypeId}{ks:List CK}(ht:Tryz.prog.underlying t=some (.slice e))(hk:flat Tryz.prog n e=some ks)(hc:Tryz.prog.cellsOf e=sz)(hpos:0<sz)(hfit: ∀{cs:List Value},Vl ks cs-> ∃x:α,cs=cells x)
  {H:Type}{enc:TypeId×Value->H}{w:World}{fuel:Nat}{a0:Option Addr}{uQ cap0:Nat}{x:DataW H×List MemPlace}(h:DataW.trod enc Tryz.prog w 0 (fun _=>true) true fuel t (Value.cells (.slice a0 uQ cap0)).toList=some x):
  ∃ms,ab9 cells sz w a0 uQ ms/\ ∀i,i<uQ-> ∀(j:Nat) (s:ByteArray),(cells (ms i))[j]?=some (.string s)->s.size<=Rows.uptoBulk x.1:=by
 rcases Deep.open_slice ht h with⟨hcs,_⟩|⟨a,len,cap,m,n',D,Pl,hcs,hb,hl,hm,hmm,rfl,hx⟩
 ·simp[Value.cells]at hcs
  obtain⟨rfl,rfl,rfl⟩:=hcs;exact⟨fun _=>default,⟨Nat.zero_le _,fun h=>by omega⟩,fun i hi=>by omega⟩
 ·simp[Value.cells]at hcs
  obtain⟨rfl,rfl,rfl⟩:=hcs;rw[hc]at hx;have hlm:uQ<=m:=by rw[hmm];split<;>omega
  obtain⟨ms,hms⟩:=Deep.choose_lt (α:=α) (n:=uQ) (p:=fun i y=>w.cells? 0 (a.add (i*sz)) sz=some (cells y)/\ ∀(j:Nat) (s:ByteArray),(cells y)[j]?=some (.string s)->s.size<=Rows.uptoBulk (D i)) (fun i hi=>by
   obtain⟨cs',h1,h2⟩:=hx i (by omega);obtain⟨y,rfl⟩:=hfit (wG n hk h2);exact⟨y,h1,BH n hk h2⟩)
  refine⟨ms,⟨by omega,fun hpl=>?_⟩,fun i hi j s hs=>?_⟩
  ·obtain⟨b,o,sp⟩:=a
   have h0:=(hms 0 hpl).1;have hs:=GN h0 hpos;have hsp:sp=none:=by simpa[Addr.add]using hs.1
   subst hsp;refine⟨b,o,rfl,by simpa[Addr.add]using hs.2,fun i hi j v hv=>?_⟩;refine Ls (hms i hi).1 ?_ hv;unfold Addr.add;by_cases hi0:i*sz=0
   ·simp[hi0]
   ·simp[hi0]
  ·have h1:=(hms i hi).2 j s hs
   have h2:=BV.part_le (d:=D i) (l:=(List.range uQ).map D) (List.mem_map.2 ⟨i,List.mem_range.2 hi,rfl⟩);simp only[Rows.uptoBulk];omega
end Go.Proofs.YtedcakchekaemaaGreatDoor
namespace Go.Proofs.YtedcakchekaemaaGreatDoor
open Go.RowKit Go.Shelf Go.Lib Go.WideShapes
theorem Lu:(Rows.laid_unicode_utf8_acceptRanges:DataW Unit)=Lib.acceptData:=by kernel_rfl
theorem PE:Rows.laid_unicode_utf8_first=Lib.firstData:=Pinned.utf8First_eq
def wH:List ByteArray:=(List.range 10).map fun k:Nat=>gu (k:Int)
theorem PG:(Rows.laid_crier_space_words:DataW Unit)=sF wH:=by kernel_rfl
def lN:List (String×DataW Unit):=[("unicode/utf8.acceptRanges",Rows.laid_unicode_utf8_acceptRanges),("errors.errorType",Rows.laid_errors_errorType),("crier/space.words",Rows.laid_crier_space_words),("unicode/utf8.first",Rows.laid_unicode_utf8_first)]
def GQ:List (String×DataW Unit):=[("unicode/utf8.acceptRanges",Lib.acceptData),("crier/space.words",sF wH),("unicode/utf8.first",Lib.firstData)]
theorem AQ:(lN.filter fun x=>x.2.handleName?.isNone)=GQ:=by
 have e:(lN.filter fun x=>x.2.handleName?.isNone)=[("unicode/utf8.acceptRanges",Rows.laid_unicode_utf8_acceptRanges),("crier/space.words",Rows.laid_crier_space_words),("unicode/utf8.first",Rows.laid_unicode_utf8_first)]:=by rfl
 rw[e,Lu,PE,PG];rfl
def pI(w:World):Prop:=ko w/\dL w/\qV w
theorem pI.own{w w':World}(h:pI w)(ho:ai [] w w'):pI w':=⟨h.1.own (S:=[]) ho (by simp),h.2.1.own ho,h.2.2.own ho⟩
theorem PI{W:World}(h:laidMetH Tryz.prog lN W):laidMet Tryz.prog GQ W:=by
 have h':laidMet Tryz.prog (lN.filter fun x=>x.2.handleName?.isNone) W/\handlesMet Tryz.prog (lN.filter fun x=>x.2.handleName?.isSome) W:=h;rw[AQ]at h';exact h'.1
theorem Vm{W:World}(h:laidMetH Tryz.prog lN W)(hs:W.ShapedOpen Tryz.prog):pI W:=by
 have h1:=PI h;refine⟨?_,?_,Tryz.laysContainsM.s1_3 W hs⟩
 ·exact utf8Tabs_of_readsT (U8Types.of196 Tryz.laysValid) ⟨by kernel_rfl,by kernel_rfl,by kernel_rfl,by kernel_rfl,by kernel_rfl,by kernel_rfl,by kernel_rfl⟩ (Lib.laidMet.reads h1 (.tail _ (.tail _ (.head _)))) (Lib.laidMet.reads h1 (.head _))
 ·obtain⟨g',t',cs,fuel,p,hg',ht',hvar,hd⟩:=Lib.laidMet.reads h1 (n:= "crier/space.words") (d:=sF wH) (.tail _ (.head _))
  obtain rfl:=Option.some.inj ((show Tryz.prog.globalNamed "crier/space.words" =some 0 by kernel_rfl).symm.trans hg');obtain rfl:=Option.some.inj ((show(Tryz.prog.globals[0]?).map (·.type)=some 269 by kernel_rfl).symm.trans ht');have hcs:=Ae Tryz.underlying269 Tryz.underlying9 (by kernel_rfl) (by kernel_rfl) hd;intro k hk;have hc:=World.var?_cell (show Tryz.prog.globalNamed "crier/space.words" =some 0 by kernel_rfl) hvar k;rw[hc];have:cs[k]?=(cs.toList)[k]?:=by simp
  rw[this,hcs];unfold wH;simp[hk]
noncomputable def jN (os:Os):World:=
 let w0:=World.holding Tryz.prog os ⟨#[],#[],[]⟩
 let put (h:Array Obj) (g:Nat) (cs:Array Value):Array Obj:=h.modify g fun
  | .cells _ t frozen=>.cells cs t frozen
  |o=>o
 let h1:=put w0.heap 2 (Lib.firstTab.map fun z=>Value.int .u8 z).toArray
 let h2:=put h1 3 ((List.range 16).flatMap fun i=>[Value.int .u8 (Lib.accLo i),Value.int .u8 (Lib.accHi i)]).toArray
 let h3:=put h2 0 (wH.map Value.string).toArray
 let h4:=put h3 4 #[.iface 484 (.agg #[typeHandle Tryz.prog 331])]
 {w0 with heap:=h4}
theorem yQ(os:Os)(args:Array Value):laidMetH Tryz.prog lN ((jN os).forCall (fun _ _=>0) ⟨#[],args,[]⟩).memory:=by
 refine laidMetH_of_parts ?_ (by kernel_rfl);rw[AQ];unfold GQ;exact(LaidIn.of_run (l:=[("unicode/utf8.acceptRanges",Lib.acceptData),("crier/space.words",sF wH),("unicode/utf8.first",Lib.firstData)]) [2,3,0] 8 (by kernel_rfl) (by kernel_rfl) (by kernel_rfl) (by kernel_rfl)).met
structure Vn where
 topic:ByteArray
 text:ByteArray
 qos:Int
 ret:Bool
def Vn.cells(m:Vn):List Value:=[.string m.topic,.string m.text,.int .i64 m.qos,.bool m.ret]
def Vn.val(m:Vn):Value:=.agg #[.string m.topic,.string m.text,.int .i64 m.qos,.bool m.ret]
end Go.Proofs.YtedcakchekaemaaGreatDoor
namespace Go.Proofs.YtedcakchekaemaaGreatDoor
open Go
theorem qp{P:Program}{f:FuncId}{fn:Func}{s:ChangeSpec}{c:OpenClaim}
  (k1:c.wf (OpenSpec.ofChange s)=true)(k2:laidOutB P=true)(k3:mapsRowed P=true)(k4:fn.params.all (P.readableRec ·)=true)(k5:namedTie P c.named s.vars=true)
  (k6:(c.stops==[])=true)(k7:(P.stops==[])=true)(k8:(c.knobs==[])=true)(k9:(P.stopKnobs==[])=true)
  (k10:(c.inPlace==P.inPlace f)=true)(k11:(c.unfollowed==P.unfollowed f)=true)(k12:(c.recurses==P.recurses f)=true)(k13:(c.named==P.varsNamed f)=true)
  (k14:(c.maps==(fn.params.toList++s.plain.varTypes P).any (P.mapsRec ·))=true)(k15:(c.ifaces==(fn.params.toList++s.plain.varTypes P).any (P.ifacesRec ·))=true)(k16:(c.mapsOut==P.mapsAmong fn.resultTypes.toList)=true)
  (k17:(c.loops==(fn.params.toList++s.plain.varTypes P).any (P.loopsFrom ·))=true)(k18:(c.wideKeys==(fn.params.toList++s.plain.varTypes P++fn.resultTypes.toList).any (P.wideKeysFrom ·))=true)
  (k19:s.vars.all (P.varReadable ·)=true)(k20:fn.resultTypes.all (fun t=>P.readableRec t&&decide (t<P.types.size))=true)(k21:(c.ifacesOut==fn.resultTypes.toList.any (P.ifacesRec ·))=true)(k22:(c.loopsOut==fn.resultTypes.toList.any (P.loopsFrom ·))=true)
  (k23:(c.plainKeys==P.plainKeys)=true)(k24:c.shortTexts.isNone=true)(k25:P.stopsHeard=true)(k26:P.mayEnter=true)(k27:(c.lifted==P.liftsFinal)=true)(k28:(P.make==some c.make)=true)
  (k29:(c.kinds==(if c.domain.isEmpty then[]else fn.params.toList.map fun t=>match P.underlying t with|some (.int k)=>some k|_=>none))=true)(k30:(c.pinned==c.pinnedBy)=true)
  (k31:(c.veiled==(fn.params.toList++s.plain.varTypes P++fn.resultTypes.toList).any (P.veiledRec ·))=true)(k32:c.veiledFits P fn.params.toList (fn.params.toList++s.plain.varTypes P++fn.resultTypes.toList)=true):
  joinedFacts P f fn s c=true:=by
 unfold joinedFacts;rw[k1,k2,k3,k4,k5,k6,k7,k8,k9,k10,k11,k12,k13,k14,k15,k16,k17,k18,k19,k20,k21,k22,k23,k24,k25,k26,k27,k28];simp only[Bool.true_and,Bool.and_eq_true];exact⟨⟨⟨k29,k30⟩,k31⟩,k32⟩
end Go.Proofs.YtedcakchekaemaaGreatDoor
namespace Go.Proofs.YtedcakchekaemaaGreatDoor
open Go.RowKit
theorem Df(w:World)(hT:pI w):Calls Tryz.prog 11 #[] w fun e w'=>e=.returned (.bool true)/\ai [] w w':=by
 go_enter Tryz.func11,Tryz.ntmps11
 go_wp2_with fail
 refine(NN w).mono ?_;rintro e w1 ⟨p,m,h,hm,bb,r,rfl,hS,aL,hp,hm',hr⟩;have hT1:=hT.own aL;have cT:=JI w1 hS hT1.1 hT1.2.1 hT1.2.2;unfold iC gB nB at cT;change Hid _ at aL;replace cT:=af cT;clear hS hT1;go_wp2_with fail
 refine cT.out.mono ?_;rintro e w2 ⟨rfl,n,rr,a,hF,hp2,hM2,hO2⟩;have adP:ai [] w w2:=aL.out.trans' hO2 (fun z hz=>.inr (by simp at hz;omega));have hAl:=(ai.refl [] w2).alloc (.cells #[.int .i64 5,.string ⟨#[103]⟩,.string ⟨#[110]⟩,.bool true] 31);have hp3:=hAl.heap hp2 (by simp);have eO:=hM2.own hAl (by simp);have xP:=hF.own hAl;have hO3:=af (adP.trans hAl);have h0:(w2.alloc (.cells #[.int .i64 5,.string ⟨#[103]⟩,.string ⟨#[110]⟩,.bool true] 31)).cell? ⟨p,0,none⟩=some (.map (some m)):=by rw[cell_of_row _ _ _ _ _ _ hp3];rfl
 have cN:=af (NR _ h0 eO xP);have cA:=af fun W (ho:ai [] (w2.alloc (.cells #[.int .i64 5,.string ⟨#[103]⟩,.string ⟨#[110]⟩,.bool true] 31)) W)=>NT W (ho.heap hp3 (by simp))
 obtain⟨v0,v1,v2,v3⟩:=fI (heap_alloc_new w2 (.cells #[.int .i64 5,.string ⟨#[103]⟩,.string ⟨#[110]⟩,.bool true] 31));clear cT hF hp2 hM2 hO2 adP hp3 eO xP h0 hAl;go_wp2_with(first
  |(go_at_call 10;(with_reducible refine cN.out.mono ?_);rintro e w4 ⟨⟨a4,c4,rfl⟩,hO4⟩;have J5:=af (cA.out _ hO4);replace hO4:=af hO4)
  |(go_at_call 30;(with_reducible refine J5.out.mono ?_);rintro e w5 ⟨rfl,rfl⟩))
 go_ret
 exact⟨rfl,hO3.out.trans hO4.out⟩
end Go.Proofs.YtedcakchekaemaaGreatDoor
namespace Go.Proofs.YtedcakchekaemaaGreatDoor
open Go.RowKit
variable [Kd]
def YU(m:PM):bW:=⟨m.name,m.has,m.al,m.time,m.ty,m.hist,m.trans,m.null,(none,0,0),(none,0,0),m.v.k,m.v.n,m.v.s,(none,0,0),(none,0,0)⟩
def Si(p:wN):iI:=⟨p.t,p.h,p.s,p.u,p.b,none,p.M.map YU,0⟩
theorem Sj{p:wN}{q:iI}(h:q.t=p.t/\q.h=p.h/\q.s=p.s/\q.u=p.u/\q.b=p.b/\q.M.map bW.pl=p.M):Bz q (Si p):=
 ⟨h.2.1,h.2.2.1,by rw[h.2.2.2.2.2];simp[Si,YU,bW.pl,Function.comp_def]⟩
def fH(s:EN)(k:Int)(d x:ByteArray):Int×EN:=match Qn (ak x)with
 |none=>(3,{s with pending:=true})
 |some p=>oQ s k d (Si p)
theorem NG(n:Nat)(g nm:ByteArray)(L:EW)(s:EN)(w:World)(h:au w n g nm L s):Calls Tryz.prog 95 #[.pointer (some ⟨n,0,none⟩)] w fun e w'=>e=.returned (.int .i64 3)/\au w' n g nm L {s with pending:=true}/\ai [n] w w':=by
 obtain⟨⟨k2,k3,k4,k5,k6,k7,k8⟩,f2,f3,f5,f6,f7,f8⟩:=aR h (S:=[]) (by simp) _ (ai.refl _ _);have cN:=af (iK n ⟨L.rb,0,none⟩ w k4);have hp:=af h.pend;clear h k2 k3 k6 k7 k8 f2 f3 f6 f7 f8;go_enter Tryz.func95,Tryz.ntmps95
 go_wp2_with(go_at_call 59;(with_reducible refine cN.out.mono ?_);rintro e w1 ⟨rfl,rfl⟩)
 go_ret
 exact⟨rfl,hp.out⟩
theorem au.blk_mem{x:gZ}:x.blk∈x.feet:=by unfold gZ.feet EW.feet;simp
def FL(K:aW)(A B:List gZ)(nd:gZ)(eb:Nat)(x:uR)(r:Int×EN)(w:World)(e:Ending)(w':World):Prop:=
 e=.returned (.bool true)/\aV w' eb {x with code:=r.1}/\ ∃L',bE w' {K with NS:=A++{nd with L:=L',s:=r.2}::B}/\ai (eb::nd.feet) w w'/\ ∀z∈aW.feet {K with NS:=A++{nd with L:=L',s:=r.2}::B},z∈K.feet\/w.heap.size<=z
theorem Sk(K:aW)(A B:List gZ)(nd:gZ)(eb:Nat)(x:uR)(w:World)(H:bE w K)(Dq:K.NS=A++nd::B)(hx:aV w eb x)(hap:eb∉K.feet)(hn:x.node=aN nd.blk)(hr:dP bS.name nd.s.dev)(hs:x.text.size<=140737488351232)(hK:aS w)(hE:jP w):
  Calls Tryz.prog 56 #[aN K.p,aN eb] w (FL K A B nd eb x (fH nd.s x.s.k x.s.d x.text) w):=by
 obtain⟨⟨rc,rs⟩,hR⟩: ∃R,fH nd.s x.s.k x.s.d x.text=R:=⟨_,rfl⟩;rw[hR];unfold fH at hR;have hmem:nd∈K.NS:=by rw[Dq];simp
 have hne:eb∉nd.feet:=fun h=>hap (aW.n_mem hmem eb h)
 obtain⟨c0,c1,c2,c3,c4,c5,c6,c7,c8,c9,c10,c11,c12,c13⟩:=bK hx;obtain⟨w1,c,hcv,aL,cP⟩:=Sg x.text w hs hK;have hel:=aj hx;replace cP:=af cP;replace H:=af H;clear hK aL;go_enter Tryz.func56,Tryz.ntmps56
 go_wp2_with fail
 refine cP.out.mono ?_;intro e w2 hp2;clear cP hcv c0 c1 c2 c3 c4 c5 c6 c7 c8 c9 c10 c11 c12 c13;cases hpy:Qn (ak x.text)with
 |none=>
  rw[hpy]at hp2 hR;simp only at hR;obtain⟨⟨ec,aD,rfl⟩,hO2⟩:=hp2;have hA3:=(ai.refl [] w2).alloc (.cells #[.int .u64 0,.bool false,.int .u64 0,.string ⟨#[]⟩,.string ⟨#[]⟩,.slice none 0 0] 54);have hO3:=hO2.trans hA3;have jL:=hx.own hO3 (by simp);have uh:=H.out.nil' hO3;have q:(ec !=0)=true:=by simpa using aD
  clear hA3 hO2;go_upto_region 3 with(fail)
  generalize(w2.alloc (.cells #[.int .u64 0,.bool false,.int .u64 0,.string ⟨#[]⟩,.string ⟨#[]⟩,.slice none 0 0] 54))=w3 at*;obtain⟨d0,d1,d2,d3,d4,d5,d6,d7,d8,d9,Av,BQ,BR,Dl⟩:=bK jL;rw[hn]at d9;have cR:=af (NG nd.blk nd.g nd.n nd.L nd.s w3 (uh.eds nd hmem));change Hid _ at uh;replace jL:=af jL;replace hO3:=af hO3;clear d0 d1 d2 d3 d4 d5 d6 d7 d8 Av BQ BR Dl;go_wp2_with fail
  refine cR.out.mono ?_;rintro e w4 ⟨rfl,UU,hO4⟩;have lq:ai nd.feet w3 w4:=hO4.mono (by intro z hz;simp at hz;subst hz;exact au.blk_mem);have kH:=jL.out.own lq hne;obtain⟨JS,Yv⟩:=uh.out.node Dq UU lq (fun z hz=>.inl hz);obtain⟨iZ,aF,z10⟩:=kH.setc (y:={x with code:=3}) 10 (.int .i64 3) (fun w' h=>h);have b10:=(bK kH).2.2.2.2.2.2.2.2.2.2.1;have OM:=hO3.out.size;have hno:eb∉aW.feet {K with NS:=A++{nd with L:=nd.L,s:={nd.s with pending:=true}}::B}:=fun h=>by
   rcases Yv eb h with h1|h1
   ·exact hap h1
   ·omega
  have hS5:=af (JS.own aF (fun z hz hc=>by simp at hc;subst hc;exact hno hz));have qJ:=af ((hO3.out.nil.trans (lq.mono (by intro z hz;exact List.mem_cons_of_mem _ hz))).trans (aF.mono (by intro z hz;simp at hz;subst hz;simp):ai (eb::nd.feet) w4 _));have hFf:=af (fun z hz=>(Yv z hz).imp id (fun h=>Nat.le_trans OM h));change Hid _ at iZ;clear cR UU hO4 lq kH JS Yv aF hno d9;go_wp2_with fail
  go_ret
  simp only[Prod.mk.injEq]at hR;obtain⟨rfl,rfl⟩:=hR;exact⟨rfl,iZ.out,_,hS5.out,qJ.out,hFf.out⟩
 |some p=>
  rw[hpy]at hp2 hR;simp only at hR;obtain⟨⟨q,hq,hqs,rfl,hqM,agc,La⟩,hO2⟩:=hp2;rw[<-RZ (Sj hq)]at hR;clear hq hpy p;obtain⟨qt,qh,qs,qu,qb,qa,qM,qc⟩:=q;unfold iI.val;simp only at hqs hqM agc La⊢;have hA3:=(ai.refl [] w2).alloc (.cells #[.int .u64 qt,.bool qh,.int .u64 qs,.string qu,.string qb,.slice qa qM.length qc] 54);have hb3:=heap_alloc_new w2 (.cells #[.int .u64 qt,.bool qh,.int .u64 qs,.string qu,.string qb,.slice qa qM.length qc] 54);have hO3:=hO2.trans hA3;have jL:=hx.own hO3 (by simp);have uh:=H.out.nil' hO3;have eO:eF _ qa qM:=hqM.nil' hA3;have adv:jP _:=hE.nil hO3;have hsz2:=hO2.size;clear hA3 hO2 hqM;go_upto_region 5 with(fail)
  generalize hnM:qM.length=nM at*;generalize(w2.alloc (.cells #[.int .u64 qt,.bool qh,.int .u64 qs,.string qu,.string qb,.slice qa nM qc] 54))=W at*;generalize w2.heap.size=pb at*;have agf:eb≠pb:=by omega
  have agh:pb∉nd.feet:=fun h=>by have:=H.out.lt pb (aW.n_mem hmem pb h);omega
  have cT:=af fun W' (ho:ai [] W W')=>ZI nd.blk nd.g nd.n nd.L nd.s x.s.k x.s.d ⟨qt,qh,qs,qu,qb,qa,qM,qc⟩ W' ((uh.nil' ho).eds nd hmem) hr (eO.nil' ho) hqs (adv.nil ho)
  unfold iI.val at cT;simp only[hnM,hR]at cT;have hS:Hid (∀W' y,ai (eb::nd.feet) W W'->aV W' eb y->y.s=x.s->y.node=x.node->(W'.cell? ⟨eb,9,none⟩=some (aN nd.blk)/\W'.cell? ⟨eb,5,none⟩=some (.int .i64 x.s.k)/\W'.cell? ⟨eb,8,none⟩=some (.string x.s.d))/\W'.cell? ⟨pb,0,none⟩=some (.int .u64 qt)/\W'.cell? ⟨pb,1,none⟩=some (.bool qh)/\W'.cell? ⟨pb,2,none⟩=some (.int .u64 qs)/\W'.cell? ⟨pb,3,none⟩=some (.string qu)/\W'.cell? ⟨pb,4,none⟩=some (.string qb)/\W'.cell? ⟨pb,5,none⟩=some (.slice qa nM qc)):=af (fun W' y ho hy q1 q2=>by
   obtain⟨e0,e1,e2,e3,e4,e5,e6,e7,e8,e9,e10,e11,e12,e13⟩:=bK hy;rw[q1]at e5 e8;rw[q2,hn]at e9;exact⟨⟨e9,e5,e8⟩,xV (ho.heap hb3 (by simp;exact⟨Ne.symm agf,agh⟩))⟩)
  have kW:=hS.out W _ (ai.refl _ _) jL rfl rfl;have JZ:=hS.out W.drew _ ((ai.refl _ _).drew) (jL.own (S:=[]) (ai.refl [] W).drew (by simp)) rfl rfl;change Hid _ at uh hnM;replace hO3:=af hO3;clear hb3 eO adv hR;go_wp2_with fail
  go_region_held3(fun W'=>(W'.cell? ⟨eb,9,none⟩=some (aN nd.blk)/\W'.cell? ⟨eb,5,none⟩=some (.int .i64 x.s.k)/\W'.cell? ⟨eb,8,none⟩=some (.string x.s.d))/\W'.cell? ⟨pb,0,none⟩=some (.int .u64 qt)/\W'.cell? ⟨pb,1,none⟩=some (.bool qh)/\W'.cell? ⟨pb,2,none⟩=some (.int .u64 qs)/\W'.cell? ⟨pb,3,none⟩=some (.string qu)/\W'.cell? ⟨pb,4,none⟩=some (.string qb)/\W'.cell? ⟨pb,5,none⟩=some (.slice qa nM qc)) (first|with_reducible exact kA|with_reducible exact kB|with_reducible exact JZ|with_reducible exact kW|go_keep)
   ((go_at_call 96;((with_reducible refine(cT.out _ (by first|exact ai.refl _ _|exact(ai.refl [] W).drew)).mono ?_);rintro e w3 ⟨rfl,L',UU,OO,hFt⟩;have dK:ai nd.feet W w3:=(by first|exact((ai.refl _ W).drew).trans OO|exact OO);have adx: ∀z∈L'.feet nd.blk,z∈nd.feet\/W.heap.size<=z:=hFt;have kH:=jL.own dK hne;have dx:ai (eb::nd.feet) W w3:=dK.mono (by intro z hz;exact List.mem_cons_of_mem _ hz);have kA:=hS.out _ x dx kH rfl rfl;obtain⟨iZ,aF,z10⟩:=kH.setc (y:={x with code:=rc}) 10 (.int .i64 rc) (fun w' h=>h);have bI:ai (eb::nd.feet) W _:=dx.trans (aF.mono (by intro z hz;simp at hz;subst hz;simp));have kB:=hS.out _ _ bI iZ rfl rfl;have b10:=(bK kH).2.2.2.2.2.2.2.2.2.2.1)))
  all_goals
   obtain⟨JS,Yv⟩:=uh.out.node Dq UU dK adx;have OM:=hO3.out.size;have hno:eb∉aW.feet {K with NS:=A++{nd with L:=L',s:=rs}::B}:=fun h=>by
    rcases Yv eb h with h1|h1
    ·exact hap h1
    ·omega
   have hS5:=af (JS.own aF (fun z hz hc=>by simp at hc;subst hc;exact hno hz));have qJ:=af (hO3.out.nil.trans bI);have hFf:=af (fun z hz=>(Yv z hz).imp id (fun h=>Nat.le_trans OM h));change Hid _ at iZ;clear kA kB kW JZ hS cT UU OO hFt adx dK dx kH JS Yv aF hno;go_wp2_with fail
   go_ret
   exact⟨rfl,iZ.out,_,hS5.out,qJ.out,hFf.out⟩
def iB(s:jv)(topic text:ByteArray)(bi:List Bi):List Bi:=
 if s.k=1\/s.k=5 then(qP topic text bi).2 else if s.k=2 then oO (bZ s).1 bi else if s.k=6 then oO (bZ s).2 bi else bi
theorem zN(s:jv):(fE s).1.size<=1000:=by
 unfold fE;split
 ·exact Nat.zero_le _
 ·split
  ·exact Nat.zero_le _
  ·split
   ·exact Nat.zero_le _
   ·rename_i h
    split
    ·exact DN (by simpa using h)
    ·exact Nat.zero_le _
theorem Ap(s:jv):(bZ s).1.size<=1048576/\(bZ s).2.size<=1048576:=by
 have h1:=zN ⟨1,s.g,s.n,ax⟩;have h2:=zN ⟨5,s.g,s.n,s.d⟩;unfold bZ;split
 ·exact⟨Nat.zero_le _,Nat.zero_le _⟩
 ·split
  ·exact⟨Nat.zero_le _,Nat.zero_le _⟩
  ·split
   ·exact⟨by show(fE _).1.size<=_;omega,Nat.zero_le _⟩
   ·split
    ·exact⟨Nat.zero_le _,Nat.zero_le _⟩
    ·exact⟨by show(fE _).1.size<=_;omega,by show(fE _).1.size<=_;omega⟩
def BA(K:aW)(eb:Nat)(x:uR)(L:List Bi)(w:World)(e:Ending)(w':World):Prop:=
 e=.returned (.bool false)/\aV w' eb x/\ ∃v,bE w' {K with bv:=v,bi:=L}/\ai (bC K.bb K.bv) w w'/\ ∀z∈aW.feet {K with bv:=v,bi:=L},z∈K.feet\/w.heap.size<=z
theorem ZR{K:aW}{eb:Nat}{x:uR}{L:List Bi}{w w1 w2 w3:World}(H:bE w K)(hx:aV w eb x)(hap:eb∉K.feet)(h1:ai [] w w1)(hB:CP K.bb K.bv L w1 w2)(h3:ai [] w2 w3):aV w3 eb x/\ ∃v,bE w3 {K with bv:=v,bi:=L}/\ai (bC K.bb K.bv) w w3/\ ∀z∈aW.feet {K with bv:=v,bi:=L},z∈K.feet\/w.heap.size<=z:=by
 obtain⟨v,hB,hO,hf⟩:=hB;have hne:eb∉bC K.bb K.bv:=fun h=>hap (K.b_mem eb h)
 obtain⟨hS,hF⟩:=(H.nil' h1).births hB hO hf;exact⟨((hx.own h1 (by simp)).own hO hne).own h3 (by simp),v,hS.nil' h3,(h1.nil.trans hO).trans h3.nil,fun z hz=>(hF z hz).imp id (fun h=>Nat.le_trans h1.size h)⟩
theorem WG(K:aW)(eb:Nat)(x:uR)(w:World)(H:bE w K)(hx:aV w eb x)(hap:eb∉K.feet)(hc:x.code=1)(hso:gF K.bi)(hfl:(iB x.s x.topic x.text K.bi).length<=40)(ht:x.topic.size<=1048576)(hW:dL w)(hT:ko w)(hM:qV w):
  Calls Tryz.prog 57 #[aN K.p,aN eb] w (BA K eb x (iB x.s x.topic x.text K.bi) w):=by
 obtain⟨L,hL⟩: ∃L,iB x.s x.topic x.text K.bi=L:=⟨_,rfl⟩;rw[hL]at hfl⊢;unfold iB at hL;obtain⟨c0,c1,c2,c3,c4,c5,c6,c7,c8,c9,c10,c11,c12,c13⟩:=bK hx;rw[hc]at c10;have cB:=xI x.s w hW hT hM;obtain⟨hz1,hz2⟩:=Ap x.s;obtain⟨t1,ht1⟩: ∃t,(bZ x.s).1=t:=⟨_,rfl⟩;obtain⟨t2,ht2⟩: ∃t,(bZ x.s).2=t:=⟨_,rfl⟩;rw[ht1,ht2]at cB;rw[ht1]at hz1 hL;rw[ht2]at hz2 hL;have hkeep:Hid (∀W,ai [] w W->dL W/\ko W/\qV W/\bE W K/\aV W eb x):=af fun W ho=>⟨hW.own ho,hT.own (S:=[]) ho (by simp),hM.own ho,H.nil' ho,hx.own ho (by simp)⟩
 have kS:Hid (∀W,ai [] w W->W.cell? ⟨K.p,2,none⟩=some (aN K.bb)/\W.cell? ⟨eb,1,none⟩=some (.string x.topic)/\W.cell? ⟨eb,2,none⟩=some (.string x.text)):=af fun W ho=>by
  obtain⟨e0,e1,e2,_⟩:=bK (hx.own ho (by simp));exact⟨(H.nil' ho).c.2.2.1,e1,e2⟩
 have hfin:=af (fun w1 w2 w3 (h1:ai [] w w1) (hB:CP K.bb K.bv L w1 w2) (h3:ai [] w2 w3)=>ZR H hx hap h1 hB h3);replace cB:=af cB;go_enter Tryz.func57,Tryz.ntmps57
 go_wp2_with fail
 refine cB.out.mono ?_;rintro e w2 ⟨rfl,hO2⟩;obtain⟨hW2,mX,hM2,hS2,hE2⟩:=hkeep.out _ hO2;obtain⟨d0,d1,d2,d3,d4,d5,d6,d7,d8,d9,Av,BQ,BR,Dl⟩:=bK hE2;have p2:=hS2.c.2.2.1;clear cB c0 c1 c2 c3 c4 c5 c6 c7 c8 c9 c10 c11 c12 c13 hW hT hM;generalize hk:x.s.k=k at*;by_cases k15:k=1\/k=5
 ·rw[if_pos k15]at hL
  have cP:=Rj K.bb K.bv x.topic x.text K.bi w2.drew (hS2.bi.nil' ((ai.refl [] w2).drew)) hso ht (hW2.own ((ai.refl [] w2).drew)) (mX.own (S:=[]) ((ai.refl [] w2).drew) (by simp)) (hM2.own ((ai.refl [] w2).drew)) (by rw[hL];exact hfl);rw[hL]at cP;generalize(qP x.topic x.text K.bi).1=en at*;have kW:=kS.out w2 hO2;have JZ:=kS.out w2.drew hO2.drew;have hfo:=af hO2;replace cP:=af cP;clear hS2 hE2 hW2 mX hM2 hL d0 d1 d2 d3 d4 d6 d7 d8 d9 Av BQ BR Dl p2;rcases k15 with rfl|rfl
  all_goals
   go_wp2_with fail
   go_region_held3(fun W=>W.cell? ⟨K.p,2,none⟩=some (aN K.bb)/\W.cell? ⟨eb,1,none⟩=some (.string x.topic)/\W.cell? ⟨eb,2,none⟩=some (.string x.text)) (first|with_reducible exact JZ|with_reducible exact kW|go_keep)
    ((go_at_call 98;(with_reducible refine cP.out.mono ?_);rintro e w5 ⟨rfl,Aw⟩;have hfi:=af (hfin.out _ _ w5 (hfo.out.drew) Aw (ai.refl _ _));have kA:w5.cell? ⟨K.p,2,none⟩=some (aN K.bb)/\w5.cell? ⟨eb,1,none⟩=some (.string x.topic)/\w5.cell? ⟨eb,2,none⟩=some (.string x.text):=(by obtain⟨iZ,v5,hS5,_⟩:=hfi.out;obtain⟨e0,e1,e2,_⟩:=bK iZ;exact⟨hS5.c.2.2.1,e1,e2⟩)))
   all_goals
    clear JZ kW hfin hkeep kS;go_wp2_with fail
    go_ret
    exact⟨rfl,hfi.out⟩
 rw[if_neg k15]at hL;simp only[not_or]at k15;have q1:(k==1)=false:=by simpa using k15.1
 have q5:(k==5)=false:=by simpa using k15.2
 by_cases k2:k=2
 ·rw[if_pos k2]at hL
  subst k2;have cD:=Br K.bb K.bv t1 K.bi w2 hS2.bi hz1 hW2 mX hM2;rw[hL]at cD;have hfo:=af hO2;replace cD:=af cD;clear hS2 hE2 hW2 mX hM2 hL d0 d1 d2 d3 d4 d6 d7 d8 d9 Av BQ BR Dl;go_wp2_with fail
  refine cD.out.mono ?_;rintro e w5 ⟨⟨n5,rfl⟩,Aw⟩;have hfi:=af (hfin.out _ _ w5 hfo.out Aw (ai.refl _ _));clear cD Aw hfin hkeep kS;go_wp2_with fail
  go_ret
  exact⟨rfl,hfi.out⟩
 rw[if_neg k2]at hL;have q2:(k==2)=false:=by simpa using k2
 by_cases k6:k=6
 ·rw[if_pos k6]at hL
  subst k6;have cD:=Br K.bb K.bv t2 K.bi w2 hS2.bi hz2 hW2 mX hM2;rw[hL]at cD;have hfo:=af hO2;replace cD:=af cD;clear hS2 hE2 hW2 mX hM2 hL d0 d1 d2 d3 d4 d6 d7 d8 d9 Av BQ BR Dl;go_wp2_with fail
  refine cD.out.mono ?_;rintro e w5 ⟨⟨n5,rfl⟩,Aw⟩;have hfi:=af (hfin.out _ _ w5 hfo.out Aw (ai.refl _ _));clear cD Aw hfin hkeep kS;go_wp2_with fail
  go_ret
  exact⟨rfl,hfi.out⟩
 rw[if_neg k6]at hL;subst hL;have q6:(k==6)=false:=by simpa using k6
 have hfi:=af (show aV w2 eb x/\ ∃v,bE w2 {K with bv:=v,bi:=K.bi}/\ai (bC K.bb K.bv) w w2/\ ∀z∈aW.feet {K with bv:=v,bi:=K.bi},z∈K.feet\/w.heap.size<=z from⟨hE2,K.bv,hS2,hO2.nil,fun z hz=>.inl hz⟩);clear hS2 hE2 hW2 mX hM2 hfin hkeep kS k15 k2 k6;go_wp2_with fail
 go_ret
 exact⟨rfl,hfi.out⟩
theorem oz.cut{w:World}{rb:Nat}{gap:Int}{B:List Nat}{l:iH}(h:oz w rb gap B l):oz w rb gap (B.filter fun z=>decide (z<w.heap.size)) l:=by
 obtain⟨v,ms,h1,h2,h3,h4,h5⟩:=h.at_;refine⟨h.len,h.nd,h.gp,v,ms,h1,h2,?_,fun g hg=>?_,fun x hx=>?_⟩
 ·exact List.mem_filter.2 ⟨h3,by simpa using aj h1.row⟩
 ·refine List.mem_filter.2 ⟨h4 g hg,?_⟩
  rcases h1.marks.own.2 with⟨q1,_⟩|⟨g',cap,cur,q1,_,q2,_⟩
  ·rw[q1]at hg;cases hg
  ·rw[q1]at hg
   simp[Value.ownBlock]at hg;subst hg;simpa using aj q2
 ·exact List.mem_filter.2 ⟨h5 x hx,by simpa using aj (h1.marks.marks x hx).1⟩
def BB(K:aW)(eb:Nat)(x:uR)(may:Bool)(l:iH)(w:World)(e:Ending)(w':World):Prop:=
 e=.returned (.bool false)/\aV w' eb {x with ask:=may}/\ ∃B,bE w' {K with RB:=B,ra:=l,asked:=K.asked+if may then 1 else 0}/\ai (eb::K.p::K.RB) w w'/\ ∀z∈aW.feet {K with RB:=B,ra:=l,asked:=K.asked+if may then 1 else 0},z∈K.feet\/w.heap.size<=z
theorem WH(K:aW)(eb:Nat)(x:uR)(w:World)(hx:aV w eb x)(hc:x.code<3):
  Calls Tryz.prog 58 #[aN K.p,aN eb] w fun e w'=>e=.returned (.bool false)/\ai [] w w':=by
 obtain⟨c0,c1,c2,c3,c4,c5,c6,c7,c8,c9,c10,c11,c12,c13⟩:=bK hx;have q3: ¬(3:Int)<=x.code:=by omega
 have hcc:(decide (3<=x.code))=false:=by simpa using hc
 go_enter Tryz.func58,Tryz.ntmps58
 go_wp2_with fail
 go_quiet(fail)
 go_wp2_with fail
 go_ret
 exact⟨rfl,(ai.refl [] w).drewN _⟩
theorem WI(K:aW)(eb:Nat)(x:uR)(w:World)(H:bE w K)(hx:aV w eb x)(hap:eb∉K.feet)(hc:3<=x.code)(ha0:x.ask=false)(ady:K.asked<1000000)(hg:x.s.g.size<=1048576)(hn:x.s.n.size<=1048576):
  Calls Tryz.prog 58 #[aN K.p,aN eb] w (BB K eb x (pK K.ra 10 (dz x.s.g x.s.n) x.at') (uw K.ra 10 (dz x.s.g x.s.n) x.at') w):=by
 have cA:=fun W (hR:oz W K.r 10 K.RB K.ra)=>Kl K.r 10 K.RB K.ra (dz x.s.g x.s.n) x.at' W hR
 unfold Ce at cA;have cT:=af (Ed x.s.g x.s.n hg hn);generalize pK K.ra 10 (dz x.s.g x.s.n) x.at'=may at*;generalize uw K.ra 10 (dz x.s.g x.s.n) x.at'=l at*;change Hid _ at cA;have Uw:K.p∉K.RB:=by
  have hn2:=oU (A:=[[K.p],[K.m],[K.h,K.hm],bC K.bb K.bv]) (C:=K.RB) (B:=K.NS.map gZ.feet) H.apart;exact hn2 [K.p] (by simp) K.p (by simp)
 have hbB:eb∉K.RB:=fun h=>hap (K.r_mem eb h)
 have hpe:K.p≠eb:=fun e=>hap (by rw[<-e];exact K.p_mem)
 have hR:=af H.ra;have hS:Hid (∀W',ai K.RB w W'->W'.cell? ⟨eb,10,none⟩=some (.int .i64 x.code)/\W'.cell? ⟨eb,6,none⟩=some (.string x.s.g)/\W'.cell? ⟨eb,7,none⟩=some (.string x.s.n)/\W'.cell? ⟨eb,0,none⟩=some (.int .i64 x.at')/\W'.cell? ⟨K.p,3,none⟩=some (aN K.r)):=af (fun W' ho=>by
  obtain⟨e0,e1,e2,e3,e4,e5,e6,e7,e8,e9,e10,e11,e12,e13⟩:=bK (hx.own ho hbB);exact⟨e10,e6,e7,e0,cell_of_row _ _ 3 _ _ _ (ho.heap H.sp Uw)⟩)
 obtain⟨s1,s2,s3,s4,s5⟩:=hS.out w (ai.refl _ _);go_enter Tryz.func58,Tryz.ntmps58
 go_wp2_with fail
 have hcc:(decide (3<=x.code))=true:=by simpa using hc
 have hw:ai K.RB w w:=ai.refl _ _;have hwd:ai K.RB w w.drew:=hw.drew;have kW:=hS.out _ hwd;go_region_held3(fun W'=>W'.cell? ⟨eb,10,none⟩=some (.int .i64 x.code)/\W'.cell? ⟨eb,6,none⟩=some (.string x.s.g)/\W'.cell? ⟨eb,7,none⟩=some (.string x.s.n)/\W'.cell? ⟨eb,0,none⟩=some (.int .i64 x.at')/\W'.cell? ⟨K.p,3,none⟩=some (aN K.r)) (first|with_reducible exact kB|with_reducible exact kA|with_reducible exact kW|go_keep)
  ((first
    |(go_at_call 101;(with_reducible refine(cT.out _).mono ?_);rintro e w2 ⟨rfl,hO2⟩;have og:ai K.RB w w2:=(by first|exact hO2.nil|exact hwd.trans hO2.nil);have kA:=hS.out _ og;have hR2:=hR.out.nil (by first|exact hO2|exact((ai.refl [] w).drew).trans hO2))
    |(go_at_call 100;(with_reducible refine(cA.out _ hR2).mono ?_);rintro e w3 ⟨rfl,B',fB,hO3,hB3⟩;have dZ:=og.trans hO3;have kB:=hS.out _ dZ;have hsz2:=og.size)))
 all_goals
  have jL:=hx.own dZ hbB;have hp3:=dZ.heap H.sp Uw;have hRc:=fB.cut;have hBc: ∀z∈B'.filter (fun z=>decide (z<w3.heap.size)),z∈K.RB\/w.heap.size<=z:=fun z hz=>(hB3 z (List.mem_filter.1 hz).1).imp id (fun h=>Nat.le_trans hsz2 h)
  have hBl: ∀z∈B'.filter (fun z=>decide (z<w3.heap.size)),z<w3.heap.size:=fun z hz=>by simpa using(List.mem_filter.1 hz).2
  have Az:ai (K.p::K.RB) w w3:=dZ.mono (by intro z hz;exact List.mem_cons_of_mem _ hz);have hel:=aj hx;generalize B'.filter (fun z=>decide (z<w3.heap.size))=B at*;clear kA kB kW hS cT cA hR hR2 fB hB3 hO3;cases may with
  |false=>
   obtain⟨nI,Lc⟩:=H.rate hRc Az hp3 hBc hBl ⟨H.ask.1,by have:=H.ask.2;omega⟩;have aa4:=af nI;have aa5:=af Lc;have qJ:=af (Az.mono (by intro z hz;exact List.mem_cons_of_mem _ hz):ai (eb::K.p::K.RB) w w3);have kH:=af (show aV w3 eb {x with ask:=false}by rw[<-ha0];exact jL);clear nI Lc Az hRc hBc hBl jL hp3 dZ og hO2;go_wp2_with fail
   go_ret
   exact⟨rfl,kH.out,B,by simpa using aa4.out,qJ.out,by simpa using aa5.out⟩
  |true=>
   obtain⟨kH,hO4,z13⟩:=jL.setc (y:={x with ask:=true}) 13 (.bool true) (fun w' h=>h);have c13:=(bK jL).2.2.2.2.2.2.2.2.2.2.2.2.2;have Ar:=hO4.heap hp3 (by simpa using hpe);have p4:(w3.setCell ⟨eb,13,none⟩ (.bool true)).cell? ⟨K.p,4,none⟩=some (.int .i64 K.asked):=cell_of_row _ _ 4 _ _ _ Ar;have z4:=frozen_of_row _ K.p 4 _ _ Ar;have aF:ai [K.p] (w3.setCell ⟨eb,13,none⟩ (.bool true)) ((w3.setCell ⟨eb,13,none⟩ (.bool true)).setCell ⟨K.p,4,none⟩ (.int .i64 (K.asked+1))):=(ai.refl [K.p] _).setCell (.inl (by simp)) _;have iZ:=kH.own aF (by simpa using hpe.symm);have hp5:((w3.setCell ⟨eb,13,none⟩ (.bool true)).setCell ⟨K.p,4,none⟩ (.int .i64 (K.asked+1))).heap[K.p]?=some (.cells #[.map (some K.m),aN K.h,aN K.bb,aN K.r,.int .i64 (K.asked+1)] 73 (0,0)):=by
    have:=heap_setCell_same _ K.p 4 _ _ (.int .i64 (K.asked+1)) Ar;simpa using this
   have hwr:IntKind.wrap .i64 (K.asked+1)=K.asked+1:=by have:=H.ask;rw[IntKind.wrap_i64];omega
   have hOO:ai (eb::K.p::K.RB) w ((w3.setCell ⟨eb,13,none⟩ (.bool true)).setCell ⟨K.p,4,none⟩ (.int .i64 (K.asked+1))):=
    ((dZ.mono (by intro y hy;simp[hy])).trans (hO4.mono (by simp))).trans (aF.mono (by simp))
   obtain⟨uh,xP⟩:=H.rate hRc Az hp3 hBc hBl ⟨H.ask.1,by have:=H.ask.2;omega⟩;have adA:eb∉aW.feet {K with RB:=B,ra:=l,asked:=K.asked}:=fun h=>by
    rcases xP eb h with h1|h1
    ·exact hap h1
    ·omega
   have JS:=uh.own hO4 (fun z hz hc=>by simp at hc;subst hc;exact adA hz);have adB:K.p∉B:=fun hz=>by
    rcases hBc _ hz with h1|h1
    ·exact Uw h1
    ·have:=aj H.sp;omega
   obtain⟨nI,agi⟩:=JS.rate (B:=B) (l:=l) (n:=K.asked+1) (JS.ra.own aF (fun z hz hc=>by simp at hc;subst hc;exact adB hz)) (aF.mono (by intro z hz;simp at hz;subst hz;simp)) hp5 (fun z hz=>.inl hz) (fun z hz=>Nat.lt_of_lt_of_le (hBl z hz) (Nat.le_trans hO4.size aF.size)) ⟨by have:=H.ask.1;omega,by omega⟩;have Lc: ∀z∈aW.feet {K with RB:=B,ra:=l,asked:=K.asked+1},z∈K.feet\/w.heap.size<=z:=fun z hz=>by
    have h1:z∈aW.feet {K with RB:=B,ra:=l,asked:=K.asked}:=hz;exact xP z h1
   have aa4:=af nI;have aa5:=af Lc;change Hid _ at hOO iZ;clear nI Lc Az hRc hBc hBl jL hp3 dZ og hO2 hp5 aF kH hO4 Ar uh xP JS agi adA adB;go_wp2_with fail
   go_ret
   exact⟨rfl,iZ.out,B,by simpa using aa4.out,hOO.out,by simpa using aa5.out⟩
structure Vd where
 code:Int
 g:ByteArray
 n:ByteArray
 ask:Bool
def qH:EN:=⟨false,0,0,false,false,[],[],[]⟩
def dV(S:SP)(k:Rk):Option (SP×EN):=match aQ S.nodes k with
 |some e=>some (S,e)
 |none=>if k.1.toList.isEmpty=true\/k.2.toList.isEmpty=true\/8<=S.nodes.length then none else some ({S with nodes:=S.nodes++[(k,qH)]},qH)
def gQ(S:SP)(s:jv)(at':Int)(t x:ByteArray)(e:EN):Vd×SP:=
 if(fH e s.k s.d x).1=1 then(⟨1,s.g,s.n,false⟩,{S with nodes:=bX S.nodes (s.g,s.n) (fH e s.k s.d x).2,bi:=iB s t x S.bi})
 else if(fH e s.k s.d x).1<3 then(⟨(fH e s.k s.d x).1,s.g,s.n,false⟩,{S with nodes:=bX S.nodes (s.g,s.n) (fH e s.k s.d x).2})
 else(⟨(fH e s.k s.d x).1,s.g,s.n,pK S.ra 10 (dz s.g s.n) at'⟩,{S with nodes:=bX S.nodes (s.g,s.n) (fH e s.k s.d x).2,ra:=uw S.ra 10 (dz s.g s.n) at',asked:=S.asked+if pK S.ra 10 (dz s.g s.n) at' then 1 else 0})
def aH(S:SP)(at':Int)(t x:ByteArray):Vd×SP:=
 if sH (bQ t).k=false then(⟨0,ax,ax,false⟩,S)
 else if(bQ t).k=9 then(⟨(kP S.hs (bQ t).n x).1,ax,(bQ t).n,false⟩,{S with hs:=(kP S.hs (bQ t).n x).2})
 else match dV S ((bQ t).g,(bQ t).n)with
  |none=>(⟨8,(bQ t).g,(bQ t).n,false⟩,S)
  |some p=>gQ p.1 (bQ t) at' t x p.2
theorem zO{α β:Type}(f:α->β)(l:List gZ)(h:gZ->α)(k:Rk):aQ (l.map fun x=>(x.key,f (h x))) k=((l.find? fun x=>x.key==k).map fun x=>f (h x)):=by
 induction l with
 |nil=>rfl
 |cons y r ih=>
  unfold aQ at ih⊢;cases hy:(y.key==k)with
  |true=>simp[hy]
  |false=>simp[hy];simpa using ih
theorem Jt{l:List gZ}{k:Rk}{y:gZ}(h:(l.find? fun x=>x.key==k)=some y): ∃A B,l=A++y::B/\y.key=k:=by
 obtain⟨h1,A,B,h2,_⟩:=List.find?_eq_some_iff_append.1 h;exact⟨A,B,h2,LawfulBEq.eq_of_beq h1⟩
theorem Sm{α:Type}{A B:List (Rk×α)}{k:Rk}{u v:α}(h:k∉A.map (·.1)):bX (A++(k,u)::B) k v=A++(k,v)::B:=by
 induction A with
 |nil=>simp[bX]
 |cons p r ih=>
  simp only[List.map_cons,List.mem_cons,not_or]at h;have hp:(p.1==k)=false:=by
   rw[Bool.eq_false_iff];intro hh;exact h.1 (LawfulBEq.eq_of_beq hh).symm
  simp[bX,hp,ih h.2]
theorem aW.put_sp{K:aW}{A B:List gZ}{nd:gZ}{L:EW}{s:EN}(Dq:K.NS=A++nd::B)(hnd:(K.NS.map gZ.key).Nodup):
  aW.sp {K with NS:=A++{nd with L:=L,s:=s}::B}={K.sp with nodes:=bX K.sp.nodes nd.key s}:=by
 have hno:nd.key∉(A.map fun x=>(x.key,x.s)).map (·.1):=fun h=>by
  rw[Dq,List.map_append,List.map_cons,List.nodup_append]at hnd;rw[List.map_map]at h;exact hnd.2.2 _ h nd.key (by simp) rfl
 unfold aW.sp;simp only[Dq,List.map_append,List.map_cons];rw[Sm hno];rfl
def zP(K:aW)(eb:Nat)(x:uR)(w:World)(e:Ending)(w':World):Prop:=
 match dV K.sp (x.s.g,x.s.n)with
 |none=>e=.returned (.bool false)/\aV w' eb {x with vg:=x.s.g,code:=8}/\bE w' K/\ai (eb::K.feet) w w'
 |some p=>e=.returned (.bool true)/\ ∃K' A nd B,(K'.NS=A++nd::B/\nd.key=(x.s.g,x.s.n)/\nd.s=p.2/\K'.sp=p.1/\K'.p=K.p)/\aV w' eb {x with vg:=x.s.g,node:=aN nd.blk}/\bE w' K'/\ai (eb::K.feet) w w'/\ ∀z∈K'.feet,z∈K.feet\/w.heap.size<=z
theorem Sn(K:aW)(eb:Nat)(x:uR)(w:World)(H:bE w K)(hx:aV w eb x)(hap:eb∉K.feet):
  Calls Tryz.prog 55 #[aN K.p,aN eb] w (zP K eb x w):=by
 have hsub: ∀{w1:World},ai [eb] w w1->ai (eb::K.feet) w w1:=fun h=>h.mono (by intro z hz;simp at hz;subst hz;simp)
 have hoff: ∀{w1:World},ai [eb] w w1->bE w1 K:=fun h=>H.own h (fun z hz hc=>by simp at hc;subst hc;exact hap hz)
 have e1:=zO id K.NS gZ.s (x.s.g,x.s.n);have e2:=zO (fun y:gZ=>aN y.blk) K.NS id (x.s.g,x.s.n);simp only[id]at e1 e2;unfold zP dV;rw[show aQ K.sp.nodes (x.s.g,x.s.n)=_ from e1];cases hf:(K.NS.find? fun y=>y.key==(x.s.g,x.s.n))with
 |some nd=>
  rw[hf]at e2;obtain⟨A,B,Dq,hk⟩:=Jt hf;exact(Jd K eb x nd w H hx hap e2).mono fun e w' ⟨h1,h2,h3⟩=>⟨h1,K,A,nd,B,⟨Dq,hk,rfl,rfl,rfl⟩,h2,hoff h3,hsub h3,fun z hz=>.inl hz⟩
 |none=>
  rw[hf]at e2;have hlen:K.sp.nodes.length=K.NS.length:=by unfold aW.sp;simp
  simp only[Option.map_none];by_cases hb:x.s.g.toList.isEmpty=true\/x.s.n.toList.isEmpty=true
  ·rw[if_pos (hb.elim .inl (fun h=>.inr (.inl h)))]
   exact(RA K eb x w H hx hap e2 hb).mono fun e w' ⟨h1,h2,h3⟩=>⟨h1,h2,hoff h3,hsub h3⟩
  ·simp only[not_or,Bool.not_eq_true]at hb
   by_cases h8:8<=K.sp.nodes.length
   ·rw[if_pos (.inr (.inr h8))]
    have:=H.few;exact(Ns K eb x w H hx hap e2 hb.1 hb.2 (by omega)).mono fun e w' ⟨h1,h2,h3⟩=>⟨h1,h2,hoff h3,hsub h3⟩
   ·rw[if_neg (by simp[hb.1,hb.2,h8])]
    refine(RF K eb x w H hx hap e2 hb.1 hb.2 (by omega)).mono ?_;rintro e w' ⟨h1,n,L,h2,h3,h4,h5⟩;refine⟨h1,{K with NS:=K.NS++[⟨x.s.g,x.s.n,n,L,qH⟩]},K.NS,⟨x.s.g,x.s.n,n,L,qH⟩,[],⟨rfl,rfl,rfl,?_,rfl⟩,h2,h3,h4.mono (by intro z hz;simp at hz;rcases hz with rfl|rfl;exact List.mem_cons_self;exact List.mem_cons_of_mem _ K.m_mem),h5⟩;unfold aW.sp;simp[qH,gZ.key]
theorem zQ(t:ByteArray):(bQ t).g.size<=1048576/\(bQ t).n.size<=1048576:=by
 unfold bQ;split
 ·rename_i h
  have h1:=h.1;generalize nA (eB t)=s at h1;unfold fE at h1;split at h1
  ·cases h1
  ·split at h1
   ·cases h1
   ·rename_i hx
    split at h1
    ·cases h1
    ·rename_i hf
     have hfr:(iM s).all gP=true:=by simpa using hf
     unfold iM at hfr;by_cases h9:s.k=9
     ·rw[if_pos h9]at hfr
      simp only[List.all_cons,List.all_nil,Bool.and_true]at hfr;have hn:=fO hfr;have hg:s.g.size=0:=by
       by_cases hg:s.g.size=0
       ·exact hg
       ·exact absurd (.inr ⟨h9,hg⟩) hx
      omega
     ·rw[if_neg h9]at hfr
      by_cases h5:5<=s.k
      ·rw[if_pos h5]at hfr
       simp only[List.all_cons,List.all_nil,Bool.and_true,Bool.and_eq_true]at hfr;have:=fO hfr.1;have:=fO hfr.2.1;omega
      ·rw[if_neg h5]at hfr
       simp only[List.all_cons,List.all_nil,Bool.and_true,Bool.and_eq_true]at hfr;have:=fO hfr.1;have:=fO hfr.2;omega
 ·exact⟨Nat.zero_le _,Nat.zero_le _⟩
structure mF (w:World):Prop where
 words:dL w
 tabs:ko w
 maxc:qV w
 kinds:aS w
 errs:jP w
theorem mF.own{w w':World}(h:mF w)(ho:ai [] w w'):mF w':=⟨h.words.own ho,h.tabs.own (S:=[]) ho (by simp),h.maxc.own ho,h.kinds.own ho,h.errs.nil ho⟩
theorem TK.nil'{w0 w w':World}{K0 K:aW}{eb:Nat}{x:uR}(H:TK w0 w K0 K eb x)(ho:ai [] w w'):TK w0 w' K0 K eb x:=
 H.step (H.sk.nil' ho) (H.en.own ho (by simp)) ho.nil (fun z hz=>.inl hz) rfl
def Jv(K:aW)(r:Vd×SP)(w:World)(e:Ending)(w':World):Prop:=
 e=.returned (.agg #[.int .i64 r.1.code,.string r.1.g,.string r.1.n,.bool r.1.ask])/\ ∃K':aW,bE w' K'/\K'.sp=r.2/\K'.p=K.p/\ai K.feet w w'/\ ∀z∈K'.feet,z∈K.feet\/w.heap.size<=z
theorem jY{w Wt W:World}{K Kt:aW}{b q1:Nat}{x:uR}(H:TK w Wt K Kt b x)(hO:ai [q1] Wt W)(hq:q1∉Kt.feet)(hw:w.heap.size<=q1):bE W Kt/\(ai K.feet w W/\ ∀z∈Kt.feet,z∈K.feet\/w.heap.size<=z):=
 ⟨H.sk.own hO (fun z hz hc=>by simp at hc;subst hc;exact hq hz),H.own.trans' hO (fun z hz=>.inr (by simp at hz;subst hz;exact hw)),H.new⟩
theorem sV{K K':aW}{w:World}{q:Nat}(h:q∉K.feet)(hl:q<w.heap.size)(hf: ∀z∈K'.feet,z∈K.feet\/w.heap.size<=z):q∉K'.feet:=fun hx=>by
 rcases hf q hx with h1|h1
 ·exact h h1
 ·omega
theorem Jw{K:aW}{k:Rk}{p:SP×EN}(h:dV K.sp k=some p)(hi: ∀y∈K.NS,dP bS.name y.s.dev):dP bS.name p.2.dev:=by
 unfold dV at h;cases hg:aQ K.sp.nodes k with
 |some e=>
  rw[hg]at h;cases h;rw[show aQ K.sp.nodes k=_ from zO id K.NS gZ.s k]at hg;obtain⟨y,hy,rfl⟩:=Option.map_eq_some_iff.1 hg;exact hi y (List.mem_of_find?_eq_some hy)
 |none=>
  rw[hg]at h;simp only at h;split at h
  ·cases h
  ·cases h
   exact List.Pairwise.nil
theorem NM{S:SP}{k:Rk}{p:SP×EN}(h:dV S k=some p):p.1.bi=S.bi/\p.1.ra=S.ra/\p.1.asked=S.asked:=by
 unfold dV at h;cases hg:aQ S.nodes k with
 |some e=>rw[hg]at h;cases h;exact⟨rfl,rfl,rfl⟩
 |none=>
  rw[hg]at h;simp only at h;split at h
  ·cases h
  ·cases h;exact⟨rfl,rfl,rfl⟩
theorem Jy(W0 w:World)(K:aW)(at':Int)(t x:ByteArray)(qos:Int)(ret:Bool)(H:bE w K)(hL:mF W0)(hOb:ai [] W0 w)(hft: ∀z∈K.feet,W0.heap.size<=z)(ht:t.size<=1048576)(hxs:x.size<=140737488351232)(ady:K.asked<1000000)(hso:gF K.bi)(hinv: ∀y∈K.NS,dP bS.name y.s.dev)(hbi:(aH K.sp at' t x).2.bi.length<=40):
  Calls Tryz.prog 9 #[aN K.p,.int .i64 at',.agg #[.string t,.string x,.int .i64 qos,.bool ret]] w (Jv K (aH K.sp at' t x) w):=by
 obtain⟨R,hR⟩: ∃R,aH K.sp at' t x=R:=⟨_,rfl⟩;rw[hR]at hbi⊢;unfold aH at hR;obtain⟨hsg,hsn⟩:=zQ t;have UW: ∀{K':aW} {W},ai K.feet w W->mF W:=fun ho=>hL.own (hOb.trans' ho (fun z hz=>.inr (hft z hz)))
 have cO:=fun W (h:mF W)=>yO t W ht h.words h.tabs h.maxc
 generalize bQ t=S at*;obtain⟨sk,sg,sn,sd⟩:=S;unfold vz at cO;simp only at hR hsg hsn cO;have hA:=(((ai.refl [] w).alloc (.cells #[.string t,.string x,.int .i64 qos,.bool ret] 29)).alloc (.cells #[.int .i64 0,.string ⟨#[]⟩,.string ⟨#[]⟩,.bool false] 31));have cN:=oq K.p K.m _ (H.nil' hA).c.1;change Hid _ at hR;replace cN:=af cN;replace UW:=af (fun K' W ho=> @UW K' W ho);go_enter Tryz.func9,Tryz.ntmps9
 go_wp2_with(go_at_call 22;((with_reducible refine cN.out.mono ?_);rintro e w2 ⟨rfl,rfl⟩))
 clear cN;have hq0:((w.alloc (.cells #[.string t,.string x,.int .i64 qos,.bool ret] 29)).alloc (.cells #[.int .i64 0,.string ⟨#[]⟩,.string ⟨#[]⟩,.bool false] 31)).heap[w.heap.size]?=some (.cells #[.string t,.string x,.int .i64 qos,.bool ret] 29 (0,0)):=by
  rw[Below.heap_alloc _ _ _ (by simp)];exact heap_alloc_new _ _
 have hq1:((w.alloc (.cells #[.string t,.string x,.int .i64 qos,.bool ret] 29)).alloc (.cells #[.int .i64 0,.string ⟨#[]⟩,.string ⟨#[]⟩,.bool false] 31)).heap[w.heap.size+1]?=some (.cells #[.int .i64 0,.string ⟨#[]⟩,.string ⟨#[]⟩,.bool false] 31 (0,0)):=heap_alloc2_new _ _ _;generalize((w.alloc (.cells #[.string t,.string x,.int .i64 qos,.bool ret] 29)).alloc (.cells #[.int .i64 0,.string ⟨#[]⟩,.string ⟨#[]⟩,.bool false] 31))=W1 at*;obtain⟨q0,UX⟩: ∃q,q=w.heap.size:=⟨_,rfl⟩;obtain⟨q1,UY⟩: ∃q,q=w.heap.size+1:=⟨_,rfl⟩;rw[<-UY]at hq1⊢;rw[<-UX]at hq0⊢;have Yw:=aj hq1;have Kb:Hid (w.heap.size<=q1):=af (by omega);have hqK:q1∉K.feet:=fun hz=>by have:=H.lt q1 hz;omega
 clear UX UY;obtain⟨s0,s1,s2,s3⟩:=fI hq0;have cO1:=af (cO W1.drew (UW.out K _ (hA.drew.nil)));have UB:Hid (∀W,ai [] W1.drew W->W.cell? ⟨q0,0,none⟩=some (.string t)/\W.cell? ⟨q0,1,none⟩=some (.string x)/\W.cell? ⟨q0,2,none⟩=some (.int .i64 qos)/\W.cell? ⟨q0,3,none⟩=some (.bool ret)):=af fun W ho=>
  fI ((ai.refl [] W1).drew.trans ho |>.heap hq0 (by simp))
 have kW:=UB.out W1.drew (ai.refl _ _);go_region_held3(fun W=>W.cell? ⟨q0,0,none⟩=some (.string t)/\W.cell? ⟨q0,1,none⟩=some (.string x)/\W.cell? ⟨q0,2,none⟩=some (.int .i64 qos)/\W.cell? ⟨q0,3,none⟩=some (.bool ret))
  (first|with_reducible exact kA|with_reducible exact kW|go_keep)
  ((first|(go_at_call 23;(with_reducible refine cO1.out.mono ?_);rintro e w3 ⟨rfl,hO3⟩;have kA:=UB.out _ hO3)))
 all_goals
  have Kc:ai [] W1 w3:=(ai.refl [] W1).drew.trans hO3;have hw3:=hA.trans Kc;have hT:TK w (w3.alloc (.cells #[.int .i64 at',.string t,.string x,.int .i64 qos,.bool ret,.int .i64 sk,.string sg,.string sn,.string sd,.pointer none,.int .i64 0,.string ⟨#[]⟩,.string ⟨#[]⟩,.bool false] 80)) K K w3.heap.size ⟨at',t,x,qos,ret,⟨sk,sg,sn,sd⟩,.pointer none,0,⟨#[]⟩,⟨#[]⟩,false⟩:=by
   have hO4:=hw3.alloc (.cells #[.int .i64 at',.string t,.string x,.int .i64 qos,.bool ret,.int .i64 sk,.string sg,.string sn,.string sd,.pointer none,.int .i64 0,.string ⟨#[]⟩,.string ⟨#[]⟩,.bool false] 80);have hz:=hw3.size;exact⟨H.nil' hO4,heap_alloc_new _ _,fun hx=>by have:=H.lt _ hx;omega,hO4.nil,fun z hz=>.inl hz,hz,rfl⟩
  have hV:=(Kc.alloc (.cells #[.int .i64 at',.string t,.string x,.int .i64 qos,.bool ret,.int .i64 sk,.string sg,.string sn,.string sd,.pointer none,.int .i64 0,.string ⟨#[]⟩,.string ⟨#[]⟩,.bool false] 80)).heap hq1 (by simp);clear kA kW UB cO1 hq0 s0 s1 s2 s3;have adC:q1<w3.heap.size:=Nat.lt_of_lt_of_le Yw Kc.size;clear hq1 Kc hw3 hO3 hA;generalize w3.alloc (.cells #[.int .i64 at',.string t,.string x,.int .i64 qos,.bool ret,.int .i64 sk,.string sg,.string sn,.string sd,.pointer none,.int .i64 0,.string ⟨#[]⟩,.string ⟨#[]⟩,.bool false] 80)=W4 at*;generalize w3.heap.size=b at*;change Hid _ at hV;replace hT:=af hT;go_wp2_with go_in
  have Gq:=(ai.refl [] W4).alloc (.cells #[.func (.func 53) #[aN K.p] #[],.func (.func 54) #[aN K.p] #[],.func (.func 55) #[aN K.p] #[],.func (.func 56) #[aN K.p] #[],.func (.func 57) #[aN K.p] #[],.func (.func 58) #[aN K.p] #[]] 85);have hSt:=heap_alloc_new W4 (.cells #[.func (.func 53) #[aN K.p] #[],.func (.func 54) #[aN K.p] #[],.func (.func 55) #[aN K.p] #[],.func (.func 56) #[aN K.p] #[],.func (.func 57) #[aN K.p] #[],.func (.func 58) #[aN K.p] #[]] 85);have OQ:=hT.out.nil' Gq;have Yi:=Gq.heap hV.out (by simp);have adD:b<W4.heap.size:=aj hT.out.en;have adE:q1<W4.heap.size:=aj hV.out;have adF:W4.heap.size∉K.feet:=fun hz=>by have:=hT.out.sk.lt _ hz;omega
  clear hT hV Gq;generalize(W4.alloc (.cells #[.func (.func 53) #[aN K.p] #[],.func (.func 54) #[aN K.p] #[],.func (.func 55) #[aN K.p] #[],.func (.func 56) #[aN K.p] #[],.func (.func 57) #[aN K.p] #[],.func (.func 58) #[aN K.p] #[]] 85))=W5 at*;generalize W4.heap.size=st at*;have hT:=af OQ;have hV:=af Yi;change Hid _ at hSt;have hq:=af hqK;have hsK:=af adF;have La:Hid (q1≠b/\st≠b):=af ⟨by omega,by omega⟩;clear OQ Yi hqK adF adD adE adC Yw;refine wp_loop_rounds 6 ?_;rw[rounds_succ];have c0:W5.cell? ⟨st,0,none⟩=some (.func (.func 53) #[aN K.p] #[]):=cell_of_row _ st 0 _ _ _ hSt.out;go_wp2_with fail
  have um:=(ai.refl [] W5).alloc (.cells #[.func (.func 53) #[aN K.p] #[]] 85);have iR:=hT.out.nil' um;have kI:=um.heap hSt.out (by simp);have mQ:=um.heap hV.out (by simp);have hla:=um.size;clear c0 hT hSt hV;generalize(W5.alloc (.cells #[.func (.func 53) #[aN K.p] #[]] 85))=Wa at*;have cc:=D6 K.p b ⟨at',t,x,qos,ret,⟨sk,sg,sn,sd⟩,.pointer none,0,⟨#[]⟩,⟨#[]⟩,false⟩ Wa iR.en;simp only at cc;cases htl:sH sk with
  |false=>
   rw[htl]at cc;have hR':=hR.out;rw[if_pos htl]at hR';replace cc:=af cc;have hT:=af iR;have hV:=af mQ;clear iR kI mQ hR;refine cc.out.mono ?_;rintro e Wt ⟨rfl,rfl⟩;generalize Wa=Wt at*;obtain⟨e0,e1,e2,e3,e4,e5,e6,e7,e8,e9,e10,e11,e12,e13⟩:=bK hT.out.en;obtain⟨v0,v1,v2,v3⟩:=fI hV.out;obtain⟨z0,z1,z2,z3,_⟩:=YK hV.out;have hset:=BZ hV.out (.int .i64 (0)) (.string ⟨#[]⟩) (.string ⟨#[]⟩) (.bool false);have jo:ai [q1] Wt ((((Wt.setCell ⟨q1,0,none⟩ (.int .i64 (0))).setCell ⟨q1,1,none⟩ (.string ⟨#[]⟩)).setCell ⟨q1,2,none⟩ (.string ⟨#[]⟩)).setCell ⟨q1,3,none⟩ (.bool false)):=
    ((((ai.refl [q1] Wt).setCell (.inl (by simp)) _).setCell (.inl (by simp)) _).setCell (.inl (by simp)) _).setCell (.inl (by simp)) _
   have hfin:=af (jY hT.out jo hq.out Kb.out);have hpe:=af hT.out.pe;change Hid _ at hset;clear e0 e1 e2 e3 e4 e5 e6 e7 e8 e9 jo;go_wp2_with fail
   obtain⟨f0,f1,f2,f3⟩:=fI hset.out;refine bodyPost_ret (v:=.agg #[.int .i64 (0),.string ⟨#[]⟩,.string ⟨#[]⟩,.bool false]) (by simp[results,Tryz.results9,go_sem,f0,f1,f2,f3];try rfl) rfl ?_;rw[<-hR'];exact⟨rfl,K,hfin.out.1,rfl,(by first|rfl|exact hpe.out),hfin.out.2⟩
  |true=>
   rw[htl]at cc;replace cc:=af cc;have gU:=hR.out;rw[if_neg (by rw[htl];simp)]at gU;replace hR:=af gU;have hT:=af iR;have hV:=af mQ;have hSt:=af kI;clear iR kI mQ gU um;refine cc.out.mono ?_;rintro e w6 ⟨rfl,rfl⟩;clear cc;generalize Wa=W6 at*;go_wp2_with fail
   rw[rounds_succ];have c1:W6.cell? ⟨st,1,none⟩=some (.func (.func 54) #[aN K.p] #[]):=cell_of_row _ st 1 _ _ _ hSt.out;go_wp2_with fail
   have hA1:=(ai.refl [] W6).alloc (.cells #[.func (.func 54) #[aN K.p] #[]] 85);have iR:=hT.out.nil' hA1;have kI:=hA1.heap hSt.out (by simp);have mQ:=hA1.heap hV.out (by simp);have hla:=hA1.size;clear c1 hT hSt hV;generalize(W6.alloc (.cells #[.func (.func 54) #[aN K.p] #[]] 85))=Wa at*;by_cases h9:sk=9
   ·subst h9
    have cc:=Jc K b ⟨at',t,x,qos,ret,⟨9,sg,sn,sd⟩,.pointer none,0,⟨#[]⟩,⟨#[]⟩,false⟩ Wa iR.sk iR.en iR.ap rfl;simp only at cc;have gU:=hR.out;rw[if_pos rfl]at gU;rw[show K.sp.hs=K.hs from rfl]at gU;generalize kP K.hs sn x=hr at*;obtain⟨hc,hh⟩:=hr;simp only at cc gU;change Hid _ at mQ;replace cc:=af cc;replace iR:=af iR;clear kI hR;refine cc.out.mono ?_;rintro e Wt ⟨rfl,Po,Yn,eU⟩;have Gt:ai (b::K.feet) Wa Wt:=eU.mono (by intro z hz;simp at hz;rcases hz with rfl|rfl|rfl;exact List.mem_cons_self;exact List.mem_cons_of_mem _ K.h_mem.1;exact List.mem_cons_of_mem _ K.h_mem.2);have hT:=af (iR.out.step Po Yn Gt (fun z hz=>.inl hz) rfl);have hV:=af (Gt.heap mQ.out (by simp only[List.mem_cons,not_or];exact⟨La.out.1,hq.out⟩));replace hq:Hid (q1∉aW.feet {K with hs:=hh}):=af hq.out;clear cc Po Yn eU Gt iR mQ;obtain⟨e0,e1,e2,e3,e4,e5,e6,e7,e8,e9,e10,e11,e12,e13⟩:=bK hT.out.en;obtain⟨v0,v1,v2,v3⟩:=fI hV.out;obtain⟨z0,z1,z2,z3,_⟩:=YK hV.out;have hset:=BZ hV.out (.int .i64 (hc)) (.string ⟨#[]⟩) (.string sn) (.bool false);have jo:ai [q1] Wt ((((Wt.setCell ⟨q1,0,none⟩ (.int .i64 (hc))).setCell ⟨q1,1,none⟩ (.string ⟨#[]⟩)).setCell ⟨q1,2,none⟩ (.string sn)).setCell ⟨q1,3,none⟩ (.bool false)):=
     ((((ai.refl [q1] Wt).setCell (.inl (by simp)) _).setCell (.inl (by simp)) _).setCell (.inl (by simp)) _).setCell (.inl (by simp)) _
    have hfin:=af (jY hT.out jo hq.out Kb.out);have hpe:=af hT.out.pe;change Hid _ at hset;clear e0 e1 e2 e3 e4 e5 e6 e7 e8 e9 jo;go_wp2_with fail
    obtain⟨f0,f1,f2,f3⟩:=fI hset.out;refine bodyPost_ret (v:=.agg #[.int .i64 (hc),.string ⟨#[]⟩,.string sn,.bool false]) (by simp[results,Tryz.results9,go_sem,f0,f1,f2,f3];try rfl) rfl ?_;rw[<-gU];exact⟨rfl,{K with hs:=hh},hfin.out.1,rfl,(by first|rfl|exact hpe.out),hfin.out.2⟩
   have cc:=yR K.p b ⟨at',t,x,qos,ret,⟨sk,sg,sn,sd⟩,.pointer none,0,⟨#[]⟩,⟨#[]⟩,false⟩ Wa iR.en h9;simp only at cc;replace cc:=af cc;have gU:=hR.out;rw[if_neg h9]at gU;replace hR:=af gU;change Hid _ at mQ kI;replace iR:=af iR;clear gU;refine cc.out.mono ?_;rintro e W7 ⟨rfl,eU,Yn⟩;have Gt:ai (b::K.feet) Wa W7:=eU.mono (by intro z hz;simp at hz;subst hz;simp);have hT:=af (iR.out.step (iR.out.sk.own eU (fun z hz hc=>by simp at hc;subst hc;exact iR.out.ap hz)) Yn Gt (fun z hz=>.inl hz) rfl);have hV:=af (Gt.heap mQ.out (by simp only[List.mem_cons,not_or];exact⟨La.out.1,hq.out⟩));have hSt:=af (Gt.heap kI.out (by simp only[List.mem_cons,not_or];exact⟨La.out.2,hsK.out⟩));clear cc eU Yn Gt iR mQ kI hA1;go_wp2_with fail
   rw[rounds_succ];have c2:W7.cell? ⟨st,2,none⟩=some (.func (.func 55) #[aN K.p] #[]):=cell_of_row _ st 2 _ _ _ hSt.out;go_wp2_with fail
   have hA2:=(ai.refl [] W7).alloc (.cells #[.func (.func 55) #[aN K.p] #[]] 85);have iR:=hT.out.nil' hA2;have kI:=hA2.heap hSt.out (by simp);have mQ:=hA2.heap hV.out (by simp);have hla:=hA2.size;clear c2 hT hSt hV;generalize(W7.alloc (.cells #[.func (.func 55) #[aN K.p] #[]] 85))=Wa at*;have cc:=Sn K b ⟨at',t,x,qos,ret,⟨sk,sg,sn,sd⟩,.pointer none,0,⟨#[]⟩,sn,false⟩ Wa iR.sk iR.en iR.ap;unfold zP at cc;simp only at cc;cases hkn:dV K.sp (sg,sn)with
   |none=>
    rw[hkn]at cc;have gU:=hR.out;rw[hkn]at gU;simp only at gU cc;change Hid _ at mQ;replace cc:=af cc;replace iR:=af iR;clear kI hR;refine cc.out.mono ?_;rintro e Wt ⟨rfl,Yo,OH,gV⟩;have hT:=af (iR.out.step OH Yo gV (fun z hz=>.inl hz) rfl);have hV:=af (gV.heap mQ.out (by simp only[List.mem_cons,not_or];exact⟨La.out.1,hq.out⟩));clear cc OH Yo gV iR mQ;obtain⟨e0,e1,e2,e3,e4,e5,e6,e7,e8,e9,e10,e11,e12,e13⟩:=bK hT.out.en;obtain⟨v0,v1,v2,v3⟩:=fI hV.out;obtain⟨z0,z1,z2,z3,_⟩:=YK hV.out;have hset:=BZ hV.out (.int .i64 (8)) (.string sg) (.string sn) (.bool false);have jo:ai [q1] Wt ((((Wt.setCell ⟨q1,0,none⟩ (.int .i64 (8))).setCell ⟨q1,1,none⟩ (.string sg)).setCell ⟨q1,2,none⟩ (.string sn)).setCell ⟨q1,3,none⟩ (.bool false)):=
     ((((ai.refl [q1] Wt).setCell (.inl (by simp)) _).setCell (.inl (by simp)) _).setCell (.inl (by simp)) _).setCell (.inl (by simp)) _
    have hfin:=af (jY hT.out jo hq.out Kb.out);have hpe:=af hT.out.pe;change Hid _ at hset;clear e0 e1 e2 e3 e4 e5 e6 e7 e8 e9 jo;go_wp2_with fail
    obtain⟨f0,f1,f2,f3⟩:=fI hset.out;refine bodyPost_ret (v:=.agg #[.int .i64 (8),.string sg,.string sn,.bool false]) (by simp[results,Tryz.results9,go_sem,f0,f1,f2,f3];try rfl) rfl ?_;rw[<-gU];exact⟨rfl,K,hfin.out.1,rfl,(by first|rfl|exact hpe.out),hfin.out.2⟩
   |some p=>
    rw[hkn]at cc;have gU:=hR.out;rw[hkn]at gU;simp only at gU cc;have hrs:=Jw hkn hinv;obtain⟨hkb,hkr,hka⟩:=NM hkn;obtain⟨S1,e1⟩:=p;simp only at gU cc hrs hkb hkr hka;replace cc:=af cc;replace hR:=af gU;change Hid _ at mQ kI;replace iR:=af iR;clear gU hkn;refine cc.out.mono ?_;rintro e W8 ⟨rfl,K8,A8,nd,B8,⟨Dq,hkey,hse,hsp,Vg⟩,Yo,OH,gV,hf8⟩;have hT:=af (iR.out.step OH Yo gV hf8 Vg);have hV:=af (gV.heap mQ.out (by simp only[List.mem_cons,not_or];exact⟨La.out.1,hq.out⟩));have hSt:=af (gV.heap kI.out (by simp only[List.mem_cons,not_or];exact⟨La.out.2,hsK.out⟩));replace hq:=af (sV hq.out (aj mQ.out) hf8);replace hsK:=af (sV hsK.out (aj kI.out) hf8);clear cc Yo OH gV hf8 iR mQ kI hA2;go_wp2_with fail
    rw[rounds_succ];have c3:W8.cell? ⟨st,3,none⟩=some (.func (.func 56) #[aN K.p] #[]):=cell_of_row _ st 3 _ _ _ hSt.out;go_wp2_with fail
    have hA3:=(ai.refl [] W8).alloc (.cells #[.func (.func 56) #[aN K.p] #[]] 85);have iR:=hT.out.nil' hA3;have kI:=hA3.heap hSt.out (by simp);have mQ:=hA3.heap hV.out (by simp);have hla:=hA3.size;clear c3 hT hSt hV;generalize(W8.alloc (.cells #[.func (.func 56) #[aN K.p] #[]] 85))=Wa at*;have Zb:=UW.out K _ iR.own;have cc:=Sk K8 A8 B8 nd b ⟨at',t,x,qos,ret,⟨sk,sg,sn,sd⟩,aN nd.blk,0,sg,sn,false⟩ Wa iR.sk Dq iR.en iR.ap rfl (by rw[hse];exact hrs) hxs Zb.kinds Zb.errs;unfold FL at cc;simp only at cc;rw[show aN K8.p=aN K.p by rw[Vg],hse]at cc;have gU:=hR.out;unfold gQ at gU;simp only at gU;generalize hrr:fH e1 sk sd x=rr at*;obtain⟨rc,rs⟩:=rr;simp only at gU cc;replace cc:=af cc;replace hR:=af gU;change Hid _ at mQ kI;replace iR:=af iR;have adG:=iR.out.sk.nd;clear gU Zb;refine cc.out.mono ?_;rintro e W9 ⟨rfl,hE9,L9,yB,mU,hf9⟩;have hmem:nd∈K8.NS:=by rw[Dq];simp
    have Yx:ai (b::K8.feet) Wa W9:=mU.mono (by intro z hz;rcases List.mem_cons.1 hz with rfl|hz;exact List.mem_cons_self;exact List.mem_cons_of_mem _ (aW.n_mem hmem z hz));have Yy:=aW.put_sp (L:=L9) (s:=rs) Dq adG;rw[hsp,hkey]at Yy;have hT:=af (iR.out.step yB hE9 Yx hf9 rfl);have hV:=af (Yx.heap mQ.out (by simp only[List.mem_cons,not_or];exact⟨La.out.1,hq.out⟩));have hSt:=af (Yx.heap kI.out (by simp only[List.mem_cons,not_or];exact⟨La.out.2,hsK.out⟩));replace hq:=af (sV hq.out (aj mQ.out) hf9);replace hsK:=af (sV hsK.out (aj kI.out) hf9);have hb9:K8.bi=K.bi/\K8.ra=K.ra/\K8.asked=K.asked:=by
     have h1:K8.sp.bi=S1.bi:=by rw[hsp]
     have h2:K8.sp.ra=S1.ra:=by rw[hsp]
     have h3:K8.sp.asked=S1.asked:=by rw[hsp]
     exact⟨h1.trans hkb,h2.trans hkr,h3.trans hka⟩
    have hS1:K8.sp.bi=S1.bi/\K8.sp.ra=S1.ra/\K8.sp.asked=S1.asked:=by rw[hsp];exact⟨rfl,rfl,rfl⟩
    generalize hK9:({K8 with NS:=A8++{nd with L:=L9,s:=rs}::B8}:aW)=K9 at*;have JR:K9.bi=K8.bi/\K9.ra=K8.ra/\K9.asked=K8.asked/\K9.p=K8.p:=by rw[<-hK9];exact⟨rfl,rfl,rfl,rfl⟩
    change Hid _ at hK9;clear cc hE9 yB mU Yx hf9 iR mQ kI hA3 adG hmem;go_wp2_with fail
    rw[rounds_succ];have c4:W9.cell? ⟨st,4,none⟩=some (.func (.func 57) #[aN K.p] #[]):=cell_of_row _ st 4 _ _ _ hSt.out;go_wp2_with fail
    have sZ:=(ai.refl [] W9).alloc (.cells #[.func (.func 57) #[aN K.p] #[]] 85);have iR:=hT.out.nil' sZ;have kI:=sZ.heap hSt.out (by simp);have mQ:=sZ.heap hV.out (by simp);have hla:=sZ.size;clear c4 hT hSt hV;generalize(W9.alloc (.cells #[.func (.func 57) #[aN K.p] #[]] 85))=Wa at*;by_cases h1c:rc=1
    ·subst h1c
     have gU:=hR.out;rw[if_pos rfl]at gU;have Zb:=UW.out K _ iR.own;have hbe:K9.bi=K.bi:=JR.1.trans hb9.1;have hre:iB ⟨sk,sg,sn,sd⟩ t x K9.bi=iB ⟨sk,sg,sn,sd⟩ t x S1.bi:=by rw[hbe,hkb];rfl
     have cc:=WG K9 b ⟨at',t,x,qos,ret,⟨sk,sg,sn,sd⟩,aN nd.blk,1,sg,sn,false⟩ Wa iR.sk iR.en iR.ap rfl (by rw[hbe];exact hso) (by show(iB ⟨sk,sg,sn,sd⟩ t x K9.bi).length<=40;rw[hre];have:=hbi;rw[<-gU]at this;exact this) ht Zb.words Zb.tabs Zb.maxc;unfold BA at cc;simp only at cc;rw[show aN K9.p=aN K.p by rw[JR.2.2.2,Vg],hre]at cc;generalize hLr:iB ⟨sk,sg,sn,sd⟩ t x S1.bi=Lr at*;change Hid _ at mQ gU;replace cc:=af cc;replace iR:=af iR;clear kI hR Zb;refine cc.out.mono ?_;rintro e Wt ⟨rfl,adH,v10,Dr,pz,aa8⟩;have UZ:ai (b::K9.feet) Wa Wt:=pz.mono (by intro z hz;exact List.mem_cons_of_mem _ (K9.b_mem z hz));have hT:=af (iR.out.step Dr adH UZ aa8 rfl);have hV:=af (UZ.heap mQ.out (by simp only[List.mem_cons,not_or];exact⟨La.out.1,hq.out⟩));replace hq:=af (sV hq.out (aj mQ.out) aa8);have heq:R=(⟨1,sg,sn,false⟩,aW.sp {K9 with bv:=v10,bi:=Lr}):=by
      rw[<-gU.out];have h0:K9.sp=_:=Yy;have e1:aW.sp {K9 with bv:=v10,bi:=Lr}={K9.sp with bi:=Lr}:=rfl;rw[e1,h0]
     change Hid _ at heq;clear cc Dr adH pz UZ aa8 iR mQ;obtain⟨e0,e1,e2,e3,e4,e5,e6,e7,e8,e9,e10,e11,e12,e13⟩:=bK hT.out.en;obtain⟨v0,v1,v2,v3⟩:=fI hV.out;obtain⟨z0,z1,z2,z3,_⟩:=YK hV.out;have hset:=BZ hV.out (.int .i64 (1)) (.string sg) (.string sn) (.bool false);have jo:ai [q1] Wt ((((Wt.setCell ⟨q1,0,none⟩ (.int .i64 (1))).setCell ⟨q1,1,none⟩ (.string sg)).setCell ⟨q1,2,none⟩ (.string sn)).setCell ⟨q1,3,none⟩ (.bool false)):=
      ((((ai.refl [q1] Wt).setCell (.inl (by simp)) _).setCell (.inl (by simp)) _).setCell (.inl (by simp)) _).setCell (.inl (by simp)) _
     have hfin:=af (jY hT.out jo hq.out Kb.out);have hpe:=af hT.out.pe;change Hid _ at hset;clear e0 e1 e2 e3 e4 e5 e6 e7 e8 e9 jo;go_wp2_with fail
     obtain⟨f0,f1,f2,f3⟩:=fI hset.out;refine bodyPost_ret (v:=.agg #[.int .i64 (1),.string sg,.string sn,.bool false]) (by simp[results,Tryz.results9,go_sem,f0,f1,f2,f3];try rfl) rfl ?_;rw[heq.out];exact⟨rfl,_,hfin.out.1,rfl,(by first|rfl|exact hpe.out),hfin.out.2⟩
    have cc:=vB K.p b ⟨at',t,x,qos,ret,⟨sk,sg,sn,sd⟩,aN nd.blk,rc,sg,sn,false⟩ Wa iR.en h1c;have gU:=hR.out;rw[if_neg h1c]at gU;replace hR:=af gU;replace cc:=af cc;have hT:=af iR;have hV:=af mQ;have hSt:=af kI;clear iR kI mQ gU sZ;refine cc.out.mono ?_;rintro e Y8 ⟨rfl,rfl⟩;clear cc;generalize Wa=Zc at*;go_wp2_with fail
    rw[rounds_succ];have c5:Zc.cell? ⟨st,5,none⟩=some (.func (.func 58) #[aN K.p] #[]):=cell_of_row _ st 5 _ _ _ hSt.out;go_wp2_with fail
    have Gq:=(ai.refl [] Zc).alloc (.cells #[.func (.func 58) #[aN K.p] #[]] 85);have iR:=hT.out.nil' Gq;have kI:=Gq.heap hSt.out (by simp);have mQ:=Gq.heap hV.out (by simp);have hla:=Gq.size;clear c5 hT hSt hV;generalize(Zc.alloc (.cells #[.func (.func 58) #[aN K.p] #[]] 85))=Wa at*;by_cases h3c:rc<3
    ·have gU:=hR.out
     rw[if_pos h3c]at gU;have cc:=WH K9 b ⟨at',t,x,qos,ret,⟨sk,sg,sn,sd⟩,aN nd.blk,rc,sg,sn,false⟩ Wa iR.en h3c;rw[show aN K9.p=aN K.p by rw[JR.2.2.2,Vg]]at cc;change Hid _ at mQ gU;replace cc:=af cc;replace iR:=af iR;clear kI hR;refine cc.out.mono ?_;rintro e Wt ⟨rfl,Gu⟩;have hT:=af (iR.out.nil' Gu);have hV:=af (Gu.heap mQ.out (by simp));have heq:R=(⟨rc,sg,sn,false⟩,K9.sp):=by
      rw[<-gU.out,Yy]
     change Hid _ at heq;clear cc Gu iR mQ;obtain⟨e0,e1,e2,e3,e4,e5,e6,e7,e8,e9,e10,e11,e12,e13⟩:=bK hT.out.en;obtain⟨v0,v1,v2,v3⟩:=fI hV.out;obtain⟨z0,z1,z2,z3,_⟩:=YK hV.out;have hset:=BZ hV.out (.int .i64 (rc)) (.string sg) (.string sn) (.bool false);have jo:ai [q1] Wt ((((Wt.setCell ⟨q1,0,none⟩ (.int .i64 (rc))).setCell ⟨q1,1,none⟩ (.string sg)).setCell ⟨q1,2,none⟩ (.string sn)).setCell ⟨q1,3,none⟩ (.bool false)):=
      ((((ai.refl [q1] Wt).setCell (.inl (by simp)) _).setCell (.inl (by simp)) _).setCell (.inl (by simp)) _).setCell (.inl (by simp)) _
     have hfin:=af (jY hT.out jo hq.out Kb.out);have hpe:=af hT.out.pe;change Hid _ at hset;clear e0 e1 e2 e3 e4 e5 e6 e7 e8 e9 jo;go_wp2_with fail
     obtain⟨f0,f1,f2,f3⟩:=fI hset.out;refine bodyPost_ret (v:=.agg #[.int .i64 (rc),.string sg,.string sn,.bool false]) (by simp[results,Tryz.results9,go_sem,f0,f1,f2,f3];try rfl) rfl ?_;rw[heq.out];exact⟨rfl,K9,hfin.out.1,rfl,(by first|rfl|exact hpe.out),hfin.out.2⟩
    have gU:=hR.out;rw[if_neg h3c]at gU;have hae:K9.asked=K.asked:=JR.2.2.1.trans hb9.2.2;have hre:K9.ra=S1.ra:=JR.2.1.trans (hb9.2.1.trans hkr.symm);have agm:K9.asked=S1.asked:=hae.trans hka.symm;have cc:=WI K9 b ⟨at',t,x,qos,ret,⟨sk,sg,sn,sd⟩,aN nd.blk,rc,sg,sn,false⟩ Wa iR.sk iR.en iR.ap (by show(3:Int)<=rc;omega) rfl (by rw[hae];exact ady) hsg hsn;unfold BB at cc;simp only at cc;rw[show aN K9.p=aN K.p by rw[JR.2.2.2,Vg],hre]at cc;generalize pK S1.ra 10 (dz sg sn) at'=may at*;generalize uw S1.ra 10 (dz sg sn) at'=lr at*;change Hid _ at mQ gU;replace cc:=af cc;replace iR:=af iR;clear kI hR;refine cc.out.mono ?_;rintro e Wt ⟨rfl,Yz,B11,adI,Gu,aa9⟩;have U0:ai (b::K9.feet) Wa Wt:=Gu.mono (by intro z hz;rcases List.mem_cons.1 hz with rfl|hz;exact List.mem_cons_self;rcases List.mem_cons.1 hz with rfl|hz;exact List.mem_cons_of_mem _ K9.p_mem;exact List.mem_cons_of_mem _ (K9.r_mem z hz));have hT:=af (iR.out.step adI Yz U0 aa9 rfl);have hV:=af (U0.heap mQ.out (by simp only[List.mem_cons,not_or];exact⟨La.out.1,hq.out⟩));replace hq:=af (sV hq.out (aj mQ.out) aa9);have heq:R=(⟨rc,sg,sn,may⟩,aW.sp {K9 with RB:=B11,ra:=lr,asked:=K9.asked+if may then 1 else 0}):=by
     rw[<-gU.out];have e1:aW.sp {K9 with RB:=B11,ra:=lr,asked:=K9.asked+if may then 1 else 0}={K9.sp with ra:=lr,asked:=K9.asked+if may then 1 else 0}:=rfl;rw[e1,Yy,agm]
    change Hid _ at heq;clear cc adI Yz Gu U0 aa9 iR mQ;obtain⟨e0,e1,e2,e3,e4,e5,e6,e7,e8,e9,e10,e11,e12,e13⟩:=bK hT.out.en;obtain⟨v0,v1,v2,v3⟩:=fI hV.out;obtain⟨z0,z1,z2,z3,_⟩:=YK hV.out;have hset:=BZ hV.out (.int .i64 (rc)) (.string sg) (.string sn) (.bool may);have jo:ai [q1] Wt ((((Wt.setCell ⟨q1,0,none⟩ (.int .i64 (rc))).setCell ⟨q1,1,none⟩ (.string sg)).setCell ⟨q1,2,none⟩ (.string sn)).setCell ⟨q1,3,none⟩ (.bool may)):=
     ((((ai.refl [q1] Wt).setCell (.inl (by simp)) _).setCell (.inl (by simp)) _).setCell (.inl (by simp)) _).setCell (.inl (by simp)) _
    have hfin:=af (jY hT.out jo hq.out Kb.out);have hpe:=af hT.out.pe;change Hid _ at hset;clear e0 e1 e2 e3 e4 e5 e6 e7 e8 e9 jo;go_wp2_with fail
    obtain⟨f0,f1,f2,f3⟩:=fI hset.out;refine bodyPost_ret (v:=.agg #[.int .i64 (rc),.string sg,.string sn,.bool may]) (by simp[results,Tryz.results9,go_sem,f0,f1,f2,f3];try rfl) rfl ?_;rw[heq.out];exact⟨rfl,_,hfin.out.1,rfl,(by first|rfl|exact hpe.out),hfin.out.2⟩
theorem sS{α:Type}{k:Rk}{v:α}{q:Rk×α}: ∀{l:List (Rk×α)},q∈bX l k v->q=(k,v)\/q∈l
 | [],h=>by unfold bX at h;exact .inl (by simpa using h)
 |p::r,h=>by
  unfold bX at h;split at h
  ·rcases List.mem_cons.1 h with h|h
   ·exact .inl h
   ·exact .inr (List.mem_cons_of_mem _ h)
  ·rcases List.mem_cons.1 h with h|h
   ·exact .inr (by rw[h];exact List.mem_cons_self)
   ·exact(sS h).imp id (List.mem_cons_of_mem _)
theorem mh{α:Type}{k:Rk}{v:α}: ∀{l:List (Rk×α)},k∈l.map (·.1)->(bX l k v).map (·.1)=l.map (·.1)
 | [],h=>by simp at h
 |p::r,h=>by
  unfold bX;split
  ·rename_i hp
   have:p.1=k:=LawfulBEq.eq_of_beq hp;simp[this]
  ·rename_i hp
   have hk:k∈r.map (·.1):=by
    rcases List.mem_cons.1 h with h|h
    ·subst h;simp at hp
    ·exact h
   simp[mh hk]
theorem sU{α:Type}{l:List (Rk×α)}{k:Rk}{v:α}(h:aQ l k=some v):(k,v)∈l:=by
 unfold aQ at h;obtain⟨p,hp,rfl⟩:=Option.map_eq_some_iff.1 h;have h1:=List.find?_some hp;have h2:p.1=k:=LawfulBEq.eq_of_beq h1;have:=List.mem_of_find?_eq_some hp;rw[<-h2];exact this
theorem qj{α:Type}{l:List (Rk×α)}{k:Rk}(h:aQ l k=none):k∉l.map (·.1):=by
 unfold aQ at h;rw[Option.map_eq_none_iff,List.find?_eq_none]at h;intro hk;obtain⟨p,hp,e⟩:=List.mem_map.1 hk;exact h p hp (by rw[e];simp)
theorem wZ(k:Rk):qO k k=true:=by unfold qO;simp
theorem FM{L:List Bi}(h:gF L)(t x:ByteArray):gF (qP t x L).2:=by
 unfold qP;have hK:=pY h (gW t).1;have hne: ∀y∈dG (gW t).1 L,y.rk≠(gW t).1:=fun y hy e=>by
  have:=(List.mem_filter.1 hy).2;unfold rJ at this;rw[show(y.k0,y.k1)=(gW t).1 from e,wZ]at this;cases this
 split
 ·exact h
 split
 ·exact hK
 ·generalize hk:(gW t).1=k at*
  generalize dG k L=A at*;have hpos:=zC (k:=k) hK;have hle:=CO k A;have h1: ∀a∈A.take (uK k A),dH a.rk k:=fun a ha=>by
   obtain⟨i,hi,rfl⟩:=List.mem_iff_getElem.1 ha;rw[List.length_take]at hi;rw[List.getElem_take];exact(vN _ _).1 ((hpos i (by omega)).2 (by omega))
  have h2: ∀a∈A.drop (uK k A),dH k a.rk:=fun a ha=>by
   have ham:=List.mem_of_mem_drop ha;obtain⟨i,hi,rfl⟩:=List.mem_iff_getElem.1 ha;rw[List.length_drop]at hi;rw[List.getElem_drop]at ham⊢;have hn: ¬dH A[uK k A+i].rk k:=fun hx=>by
    have:=(hpos _ (by omega)).1 ((vN _ _).2 hx);omega
   by_cases hx:dH k A[uK k A+i].rk
   ·exact hx
   ·exact absurd (pX hn hx) (hne _ ham)
  unfold gF;rw[List.append_assoc,List.pairwise_append,List.singleton_append,List.pairwise_cons];refine⟨hK.sublist (List.take_sublist _ _),⟨h2,hK.sublist (List.drop_sublist _ _)⟩,fun a ha b hb=>?_⟩;rcases List.mem_cons.1 hb with rfl|hb
  ·exact h1 a ha
  ·exact jC (h1 a ha) (h2 b hb)
theorem Sr(L:List Bi)(t x:ByteArray):(qP t x L).2.length<=L.length+1:=by
 unfold qP;have:=lF (gW t).1 L;split
 ·simp
 split
 ·simp;omega
 ·simp only[List.length_append,List.length_take,List.length_drop,List.length_singleton]
  omega
theorem NH{L:List Bi}(h:gF L)(s:jv)(t x:ByteArray):gF (iB s t x L)/\(iB s t x L).length<=L.length+1:=by
 have hd: ∀u,gF (oO u L)/\(oO u L).length<=L.length+1:=fun u=>by
  unfold oO;split
  ·exact⟨h,by omega⟩
  ·exact⟨pY h _,by have:=lF (gW u).1 L;omega⟩
 unfold iB;split
 ·exact⟨FM h t x,Sr L t x⟩
 split
 ·exact hd _
 split
 ·exact hd _
 ·exact⟨h,by omega⟩
theorem NI{s:EN}(h:jI s)(k:Int)(d x:ByteArray):jI (fH s k d x).2:=by
 unfold fH;split
 ·exact h
 ·exact Nq h _ _ _
structure jD (n:Nat) (S:SP):Prop where
 bs:gF S.bi
 few:S.bi.length<=n
 ei: ∀p∈S.nodes,jI p.2
 gk: ∀p∈S.nodes,p.1.1.toList.isEmpty=false/\p.1.2.toList.isEmpty=false
 nd:(S.nodes.map (·.1)).Nodup
 n8:S.nodes.length<=8
 ra: ∀k∈S.ra.map (·.1),∃q∈S.nodes.map (·.1),k=dz q.1 q.2
 rn:(S.ra.map (·.1)).Nodup
 ask:0<=S.asked/\S.asked<=n
theorem NJ:jD 0 ⟨[],[],[],[],0⟩:=⟨List.Pairwise.nil,by simp,by simp,by simp,by simp,by simp,by simp,by simp,by simp⟩
theorem kE{S:SP}{k:Rk}{p:SP×EN}(h:dV S k=some p):(aQ S.nodes k=some p.2/\p.1=S)\/(aQ S.nodes k=none/\(k.1.toList.isEmpty=false/\k.2.toList.isEmpty=false/\S.nodes.length<8)/\p=({S with nodes:=S.nodes++[(k,qH)]},qH)):=by
 unfold dV at h;split at h
 ·rename_i e he
  cases h;exact .inl ⟨he,rfl⟩
 ·rename_i he
  split at h
  ·cases h
  ·rename_i hn
   simp only[not_or,Bool.not_eq_true,Nat.not_le]at hn;cases h;exact .inr ⟨he,hn,rfl⟩
theorem rQ{n:Nat}{S:SP}{k:Rk}{p:SP×EN}(H:jD n S)(h:dV S k=some p):jD n p.1/\(k,p.2)∈p.1.nodes:=by
 rcases kE h with⟨h1,h2⟩|⟨h1,⟨h2,h3,h4⟩,rfl⟩
 ·rw[h2]
  exact⟨H,sU h1⟩
 ·refine⟨⟨H.bs,H.few,fun q hq=>?_,fun q hq=>?_,?_,by simp;omega,fun q hq=>?_,H.rn,H.ask⟩,by simp⟩
  ·rcases List.mem_append.1 hq with hq|hq
   ·exact H.ei q hq
   ·rw[List.mem_singleton]at hq;subst hq;exact Ry
  ·rcases List.mem_append.1 hq with hq|hq
   ·exact H.gk q hq
   ·rw[List.mem_singleton]at hq;subst hq;exact⟨h2,h3⟩
  ·rw[List.map_append,List.nodup_append]
   exact⟨H.nd,by simp,fun a ha b hb e=>by simp at hb;subst hb;subst e;exact qj h1 ha⟩
  ·obtain⟨y,hy,e⟩:=H.ra q hq
   exact⟨y,by simp only[List.map_append];exact List.mem_append_left _ hy,e⟩
theorem Sv{l:iH}{k:ByteArray}{q:ByteArray×Int}(h:q∈fU l k):q∈l/\q.1≠k:=by
 unfold fU at h;obtain⟨h1,h2⟩:=List.mem_filter.1 h;exact⟨h1,by simpa using h2⟩
theorem NK{l:iH}{k:ByteArray}{t:Int}{q:ByteArray}(h:q∈(uw l 10 k t).map (·.1)):q=k\/q∈l.map (·.1):=by
 unfold uw at h;split at h
 ·rw[List.map_cons]at h
  rcases List.mem_cons.1 h with h|h
  ·exact .inl h
  ·obtain⟨y,hy,e⟩:=List.mem_map.1 h
   exact .inr (List.mem_map.2 ⟨y,(Sv hy).1,e⟩)
 ·exact .inr h
theorem Ju{l:iH}(hn:(l.map (·.1)).Nodup)(k:ByteArray)(t:Int):((uw l 10 k t).map (·.1)).Nodup:=by
 unfold uw;split
 ·rw[List.map_cons,List.nodup_cons]
  exact⟨(uy hn k).2,(uy hn k).1⟩
 ·exact hn
theorem jD.up{n:Nat}{S:SP}(H:jD n S):jD (n+1) S:=⟨H.bs,by have:=H.few;omega,H.ei,H.gk,H.nd,H.n8,H.ra,H.rn,H.ask.1,by have:=H.ask.2;omega⟩
theorem jD.node{n:Nat}{S:SP}{k:Rk}{e e':EN}(H:jD n S)(hk:(k,e)∈S.nodes)(he:jI e'):jD n {S with nodes:=bX S.nodes k e'}:=by
 have hkm:k∈S.nodes.map (·.1):=List.mem_map.2 ⟨_,hk,rfl⟩;have hkeys:=mh (v:=e') hkm;refine⟨H.bs,H.few,fun q hq=>?_,fun q hq=>?_,?_,?_,?_,H.rn,H.ask⟩
 ·rcases sS hq with rfl|hq
  ·exact he
  ·exact H.ei q hq
 ·rcases sS hq with rfl|hq
  ·exact H.gk (k,e) hk
  ·exact H.gk q hq
 ·show((bX S.nodes k e').map (·.1)).Nodup
  rw[hkeys];exact H.nd
 ·have:=congrArg List.length hkeys
  simp only[List.length_map]at this;show(bX S.nodes k e').length<=8;rw[this];exact H.n8
 ·show∀q∈S.ra.map (·.1),∃y∈(bX S.nodes k e').map (·.1),q=dz y.1 y.2
  rw[hkeys];exact H.ra
theorem FN{n:Nat}{S:SP}{s:jv}{at':Int}{t x:ByteArray}{e:EN}(H:jD n S)(hk:((s.g,s.n),e)∈S.nodes):jD (n+1) (gQ S s at' t x e).2:=by
 have he:=NI (H.ei _ hk) s.k s.d x;have H2:=H.node hk he;have hkm:(s.g,s.n)∈(bX S.nodes (s.g,s.n) (fH e s.k s.d x).2).map (·.1):=by
  rw[mh (List.mem_map.2 ⟨_,hk,rfl⟩)];exact List.mem_map.2 ⟨_,hk,rfl⟩
 unfold gQ;split
 ·have h3:=NH H.bs s t x
  exact⟨h3.1,by have:=H.few;have:=h3.2;show(iB s t x S.bi).length<=n+1;omega,H2.ei,H2.gk,H2.nd,H2.n8,H2.ra,H2.rn,H2.ask.1,by have:=H2.ask.2;show S.asked<=((n+1:Nat):Int);simp at this;omega⟩
 split
 ·exact H2.up
 ·have h4:=H2.up
  refine⟨h4.bs,h4.few,h4.ei,h4.gk,h4.nd,h4.n8,fun q hq=>?_,Ju H.rn _ _,?_⟩
  ·rcases NK hq with rfl|hq
   ·exact⟨(s.g,s.n),hkm,rfl⟩
   ·exact H2.ra q hq
  ·have:=H.ask
   show 0<=S.asked+_/\S.asked+_<=((n+1:Nat):Int);split<;>omega
theorem xO{n:Nat}{S:SP}(H:jD n S)(at':Int)(t x:ByteArray):jD (n+1) (aH S at' t x).2:=by
 unfold aH;split
 ·exact H.up
 split
 ·exact⟨H.up.bs,H.up.few,H.ei,H.gk,H.nd,H.n8,H.ra,H.rn,H.up.ask⟩
 ·split
  ·exact H.up
  ·rename_i p hp
   obtain⟨h1,h2⟩:=rQ H hp;exact FN h1 h2
theorem lK{α:Type}[DecidableEq α]: ∀{l l':List α},l.Nodup->(∀x∈l,x∈l')->l.length<=l'.length
 | [],l',_,_=>Nat.zero_le _
 |x::r,l',h,hs=>by
  rw[List.nodup_cons]at h;have hx:=hs x List.mem_cons_self;have:=lK (l:=r) (l':=l'.erase x) h.2 (fun y hy=>by
   rw[List.mem_erase_of_ne (fun e=>h.1 (by rw[<-e];exact hy))];exact hs y (List.mem_cons_of_mem _ hy))
  rw[List.length_erase_of_mem hx]at this;have h0:0<l'.length:=List.length_pos_of_mem hx;simp only[List.length_cons];omega
theorem qm{κ α:Type}[BEq κ][LawfulBEq κ][DecidableEq κ](l:List (κ×α))(k j:κ)(v:α):aQ (bX l k v) j=if j=k then some v else aQ l j:=by
 induction l with
 |nil=>
  by_cases h:j=k
  ·subst h;simp[bX,aQ]
  ·have h2: ¬k=j:=fun e=>h e.symm
   simp[bX,aQ,h,h2]
 |cons p r ih=>
  unfold bX;by_cases hk:p.1==k
  ·have hp:p.1=k:=by simpa using hk
   rw[if_pos hk];by_cases h:j=k
   ·subst h;simp[aQ]
   ·have h2: ¬k=j:=fun e=>h e.symm
    simp[aQ,hp,h,h2]
  ·rw[if_neg hk]
   have hp: ¬p.1=k:=by simpa using hk
   by_cases hj:p.1=j
   ·have h: ¬j=k:=fun e=>hp (hj.trans e)
    simp[aQ,hj,h]
   ·have e1:aQ (p::bX r k v) j=aQ (bX r k v) j:=by simp[aQ,hj]
    have e2:aQ (p::r) j=aQ r j:=by simp[aQ,hj]
    rw[e1,e2,ih]
structure tC (W0 w:World) (n:Nat) (K:aW):Prop where
 sk:bE w K
 inv:jD n K.sp
 own:ai [] W0 w
 ft: ∀z∈K.feet,W0.heap.size<=z
theorem tC.nil'{W0 w w':World}{n:Nat}{K:aW}(H:tC W0 w n K)(ho:ai [] w w'):tC W0 w' n K:=⟨H.sk.nil' ho,H.inv,H.own.trans ho,H.ft⟩
theorem tC.ow{S:List Nat}{W0 w w':World}{n:Nat}{K:aW}(H:tC W0 w n K)(ho:ai S w w')(h1: ∀z∈K.feet,z∉S)(h2: ∀z∈S,W0.heap.size<=z):tC W0 w' n K:=⟨H.sk.own ho h1,H.inv,H.own.trans' ho (fun z hz=>.inr (h2 z hz)),H.ft⟩
theorem tC.lt{W0 w:World}{n:Nat}{K:aW}(H:tC W0 w n K): ∀z∈K.feet,W0.heap.size<=z/\z<w.heap.size:=fun z hz=>⟨H.ft z hz,H.sk.lt z hz⟩
def KW(v:Vd):Value:=.agg #[.int .i64 v.code,.string v.g,.string v.n,.bool v.ask]
theorem JE(W0 w:World)(ho:ai [] W0 w):Calls Tryz.prog 8 #[] w fun e w'=> ∃K:aW,e=.returned (aN K.p)/\tC W0 w' 0 K/\K.sp=ZV/\ai [] w w'/\ ∀z∈K.feet,w.heap.size<=z:=
 (NW w).mono fun e w' ⟨K,h1,h2,h3,h4,h5⟩=>⟨K,h1,⟨h2,by rw[h3];exact NJ,ho.trans h4,fun z hz=>Nat.le_trans ho.size (h5 z hz)⟩,h3,h4,h5⟩
theorem mG(W0 w:World)(n:Nat)(K:aW)(at':Int)(t x:ByteArray)(qos:Int)(ret:Bool)(H:tC W0 w n K)(hL:mF W0)(ht:t.size<=1048576)(hx:x.size<=1500)(hn:n<40):
  Calls Tryz.prog 9 #[aN K.p,.int .i64 at',.agg #[.string t,.string x,.int .i64 qos,.bool ret]] w fun e w'=>e=.returned (KW (aH K.sp at' t x).1)/\ ∃K':aW,tC W0 w' (n+1) K'/\K'.sp=(aH K.sp at' t x).2/\K'.p=K.p/\ai K.feet w w'/\ ∀z∈K'.feet,z∈K.feet\/w.heap.size<=z:=by
 have hk:=xO H.inv at' t x;refine(Jy W0 w K at' t x qos ret H.sk hL H.own H.ft ht (by omega) (by have:K.asked<=(n:Int):=H.inv.ask.2;omega) H.inv.bs (fun y hy=>(H.inv.ei (y.key,y.s) (List.mem_map.2 ⟨y,hy,rfl⟩)).1) (by have:=hk.few;omega)).mono ?_;rintro e w' ⟨h1,K',h2,h3,h4,h5,h6⟩;have hsz:=H.own.size;refine⟨h1,K',⟨h2,by rw[h3];exact hk,H.own.trans' h5 (fun z hz=>.inr (H.ft z hz)),fun z hz=>?_⟩,h3,h4,h5,h6⟩;rcases h6 z hz with h7|h7
 ·exact H.ft z h7
 ·omega
structure xW where
 topic:ByteArray
 text:ByteArray
 qos:Int
 ret:Bool
def xW.cells(m:xW):List Value:=[.string m.topic,.string m.text,.int .i64 m.qos,.bool m.ret]
def Dc(w:World)(a:Option Addr)(n:Nat)(ms:Nat->xW):Prop:=
 n<=maxLen/\(0<n-> ∃b o,a=some ⟨b,o,none⟩/\b<w.heap.size/\ ∀i,i<n->(ms i).topic.size<=1048576/\ ∀j v,(ms i).cells[j]?=some v->w.cell? ⟨b,o+i*4+j,none⟩=some v)
theorem Dc.at'{w w':World}{a:Option Addr}{n:Nat}{ms:Nat->xW}(h:Dc w a n ms)(ho:ai [] w w'){k:Nat}(hk:k<n): ∃b o,a=some ⟨b,o,none⟩/\(ms k).topic.size<=1048576/\b<w.heap.size/\ ∀W,ai [] w W->(W.cell? ⟨b,o+k*4,none⟩=some (.string (ms k).topic)/\W.cell? ⟨b,o+k*4+1,none⟩=some (.string (ms k).text)/\W.cell? ⟨b,o+k*4+2,none⟩=some (.int .i64 (ms k).qos)/\W.cell? ⟨b,o+k*4+3,none⟩=some (.bool (ms k).ret)):=by
 obtain⟨b,o,rfl,hb,hx⟩:=h.2 (by omega);obtain⟨h1,h2⟩:=hx k hk;exact⟨b,o,rfl,h1,hb,fun W ho=>⟨(ho.cell (p:=⟨b,o+k*4,none⟩) hb (by simp)).trans (h2 0 _ rfl),(ho.cell (p:=⟨b,o+k*4+1,none⟩) hb (by simp)).trans (h2 1 _ rfl),(ho.cell (p:=⟨b,o+k*4+2,none⟩) hb (by simp)).trans (h2 2 _ rfl),(ho.cell (p:=⟨b,o+k*4+3,none⟩) hb (by simp)).trans (h2 3 _ rfl)⟩⟩
end Go.Proofs.YtedcakchekaemaaGreatDoor
namespace Go.Proofs.YtedcakchekaemaaGreatDoor
open Go.RowKit Go.Shelf Go.Lib Go.WideShapes
theorem N9:Tryz.prog.globalNamed "errors.errorType" =some 4:=by kernel_rfl
theorem Z0:(Tryz.prog.cutTypes.find? (·.1== "internal/reflectlite.rtype")).map (·.2)=some 484:=by kernel_rfl
theorem WK:((List.range 577).filter fun t=>Tryz.prog.rowNamed t [101,114,114,111,114])=[331]:=by kernel_rfl
theorem ab8:Tryz.prog.types.size=577:=by kernel_rfl
theorem WL{W:World}(h:laidMetH Tryz.prog lN W):jP W:=by
 have h':laidMet Tryz.prog (lN.filter fun x=>x.2.handleName?.isNone) W/\handlesMet Tryz.prog (lN.filter fun x=>x.2.handleName?.isSome) W:=h;obtain⟨name,u,ty,e1,e2,e3,e4,e5⟩:=h'.2 ("errors.errorType",Rows.laid_errors_errorType) (List.mem_filter.2 ⟨.tail _ (.head _),rfl⟩);have en:name=[101,114,114,111,114]:=(Option.some.inj e1).symm;subst en;obtain rfl:=Option.some.inj (Z0.symm.trans e2);have hm:ty∈(List.range 577).filter fun t=>Tryz.prog.rowNamed t [101,114,114,111,114]:=List.mem_filter.2 ⟨List.mem_range.2 (by rw[<-ab8];exact e3),e4⟩
 rw[WK]at hm;obtain rfl:=List.mem_singleton.1 hm;have hh:typeHandle Tryz.prog 331=.pointer (some ⟨6,331,none⟩):=by kernel_rfl
 rw[hh]at e5;unfold jP;simpa using World.var?_cell N9 e5 0
theorem nZ{P:Program}{w:World}{g n:Nat}{t e:TypeId}{zero:Array Value}{k:IntKind}(h:w.ShapedOpen P)(hg:g<P.globals.size)
  (h0:((begin P (fun _ _=>0) default).world.heap[g]?).bind Obj.row?=some (zero,t))(hz:zero.size=n)(hb:P.buildable t=true)(hc:P.cellTypes P.depth t=some (List.replicate n e))(hu:P.underlying e=some (.int k)):
  ∀i,i<n-> ∃m,w.cell? ⟨g,i,none⟩=some (.int k m):=by
 intro i hi;obtain⟨cs,hh,hs,hr⟩:=h.1 g zero t hg h0;obtain⟨ts,hts,_,hall⟩:=hr hb;rw[hc]at hts;cases hts;have h1:i<cs.size:=by omega
 obtain⟨u,hu',hok⟩:=hall i cs[i] (by simp[h1]);have:u=e:=by
  have:=List.mem_of_getElem? hu';exact(List.mem_replicate.1 this).2
 subst this;have hcell:w.cell? ⟨g,i,none⟩=some cs[i]:=by simp[World.cell?,hh,h1]
 rw[hcell];unfold Cell.ok at hok;rw[hu]at hok;cases hv:cs[i]<;>rw[hv]at hok<;>simp at hok;case int k' n=>exact⟨n,by rw[hok.1]⟩
theorem SI{W:World}(hs:W.ShapedOpen Tryz.prog): ∃kd:Kd,@aS kd W:=by
 have hx:=nZ (g:=5) (n:=8) (e:=3) (k:=.i64) (t:=553) (zero:=(List.replicate 8 (Value.int .i64 0)).toArray) hs (of_decide_eq_true (by kernel_rfl)) (by kernel_rfl) (by kernel_rfl) (by kernel_rfl) (by kernel_rfl) Tryz.underlying3;refine⟨⟨fun z=>if h:z.toNat<8 then Classical.choose (hx z.toNat h)else 0⟩,fun k hk=>?_⟩;have:=Classical.choose_spec (hx k hk);unfold KC;simp only[Int.toNat_natCast,hk,dif_pos];exact this
theorem zT{W:World}(h:laidMetH Tryz.prog lN W)(hs:W.ShapedOpen Tryz.prog):(∃kd:Kd,@mF kd W)/\pI W:=by
 obtain⟨kd,hk⟩:=SI hs;have ht:=Vm h hs;exact⟨⟨kd,@mF.mk kd W ht.2.1 ht.1 ht.2.2 hk (WL h)⟩,ht⟩
end Go.Proofs.YtedcakchekaemaaGreatDoor
namespace Go.Proofs.YtedcakchekaemaaGreatDoor
open Go.RowKit Go.ChangeShapes Go.WideShapes
def KX:List CK:=[.str,.str,.int .i64,.bool]
theorem WM:flat Tryz.prog 3 29=some KX:=by kernel_rfl
theorem SK:Tryz.prog.cellsOf 29=4:=by kernel_rfl
theorem WN{cs:List Value}(h:Vl KX cs): ∃x:xW,cs=x.cells:=by
 obtain⟨hl,hf⟩:=h
 match cs,hl with
 | [v0,v1,v2,v3],_=>
   obtain⟨s0,rfl,_⟩:=hf 0 _ _ rfl rfl;obtain⟨s1,rfl,_⟩:=hf 1 _ _ rfl rfl;obtain⟨n2,rfl,_⟩:=hf 2 _ _ rfl rfl;obtain⟨b3,rfl⟩:=hf 3 _ _ rfl rfl;exact⟨⟨s0,s1,n2,b3⟩,rfl⟩
instance:Inhabited xW:=⟨⟨ByteArray.empty,ByteArray.empty,0,false⟩⟩
theorem uM{H:Type}{enc:TypeId×Value->H}{w:World}{fuel:Nat}{a0:Option Addr}{uQ cap0:Nat}{x:DataW H×List MemPlace}(h:DataW.trod enc Tryz.prog w 0 (fun _=>true) true fuel 22 (Value.cells (.slice a0 uQ cap0)).toList=some x)
  (hb:Rows.uptoBulk x.1<=1048576): ∃ms,Dc w a0 uQ ms/\True:=by
 obtain⟨ms,h1,h2⟩:=Oa (n:=3) Tryz.underlying22 WM SK (by omega) WN h;refine⟨ms,⟨h1.1,fun hl=>?_⟩,trivial⟩;obtain⟨b,o,e1,e2,e3⟩:=h1.2 hl;exact⟨b,o,e1,e2,fun i hi=>⟨Nat.le_trans (h2 i hi 0 _ rfl) hb,fun j v hj=>e3 i hi j v hj⟩⟩
end Go.Proofs.YtedcakchekaemaaGreatDoor
