import Derived.Test.YtedcakchekaemaaGreatDoorMn32
import Derived.Shelf.SlSortCmp.WholeK
set_option maxRecDepth 100000
set_option maxHeartbeats 16000000
set_option linter.all false
namespace Go.Proofs.YtedcakchekaemaaGreatDoor
open Go.RowKit
variable [Kd]
def Je(l:List bG):List ByteArray:=(aX l 2).map (·.text)
def Jf(l:List bG):List ByteArray:=(aX l 3).map (·.text)
theorem SF{l:List bG}{k:Nat}(hk:k<l.length)(hp:jK l[k]=true):bX (Je (l.take k),Jf (l.take k)) l[k]=some (Je (l.take (k+1)),Jf (l.take (k+1))):=by
 unfold bX;rw[if_pos hp]
 congr 1
 unfold Je Jf;rw[uR hk,uR hk];by_cases h2:l[k].num=2
 ·rw[if_pos h2];simp[h2]
 ·rw[if_neg h2]
  by_cases h3:l[k].num=3
  ·rw[if_pos h3];simp[h3]
  ·rw[if_neg h3];simp[h2,h3]
theorem SG(l:List bG):(Je l).length<=l.length:=by unfold Je aX;rw[List.length_map];exact List.length_filter_le _ _
theorem SH(l:List bG):(Jf l).length<=l.length:=by unfold Jf aX;rw[List.length_map];exact List.length_filter_le _ _
theorem VY{l:List bG}(h: ∀f∈l,f.Ok): ∀s∈Je l,s.size<=4096:=by
 intro s hs;obtain⟨f,hf,rfl⟩:=List.mem_map.1 hs;exact(h f (List.mem_filter.1 hf).1).t
theorem VZ{l:List bG}(h: ∀f∈l,f.Ok): ∀s∈Jf l,s.size<=4096:=by
 intro s hs;obtain⟨f,hf,rfl⟩:=List.mem_map.1 hs;exact(h f (List.mem_filter.1 hf).1).t
theorem SI(g:List Int->Option PM)(B:List Int):AP (fun C=>(g C).isSome) B=match sj B with
 |none=>false
 |some l=>l.all jK&&(decide ((Je l).length<=64)&&decide ((Jf l).length<=32)&&(Je l).all (fun s=>(g (ak s)).isSome)&&(Jf l).all (fun s=>vV (ak s))):=by
 unfold AP Je Jf;cases sj B with
 |none=>rfl
 |some l=>simp[List.all_map,Function.comp_def,Bool.and_assoc]
theorem GY(g:List Int->Option PM)(W0 w:World)(b:Nat)(p:EG)(s:ByteArray)(deep:Int)(h:uz W0 w b p (.slice none 0 0) (.slice none 0 0) [] [])(hs:s.size<=4096)(hK:aN W0)(IH:LC g deep):
  Calls Tryz.prog 257 #[.iface 549 (.pointer (some ⟨b,0,none⟩)),.string s,.int .i64 deep] w (Bw (AP (fun C=>(g C).isSome) (ak s)) W0 b):=by
 obtain⟨ok,hok⟩: ∃ok,AP (fun C=>(g C).isSome) (ak s)=ok:=⟨_,rfl⟩;rw[hok];rw[SI]at hok;obtain⟨w1,c,hcv,aH,cW⟩:=qN s w (by omega);have mT:=PX;have mD:=PY;have hbw:=aj h.row;change Hid _ at IH;replace cW:=af cW;replace h:=af h;have Js:=af hK;clear hK aH;go_enter Tryz.func257,Tryz.ntmps257
 go_wp2_with fail
 refine cW.out.mono ?_;intro e w2 hp;clear cW hcv;cases hw:sj (ak s)with
 |none=>
  rw[hw]at hp hok;simp only at hok;obtain⟨⟨ec,ay,rfl⟩,hO2⟩:=hp;have aF:=af hok.symm;have q:(ec !=0)=true:=by simpa using ay
  change Hid _ at ay;replace hO2:=af (h.out.own.trans hO2);clear hw hok;go_wp2_with fail
  go_ret
  exact uZ aF.out ay.out hO2.out
 |some l=>
  rw[hw]at hp hok;simp only at hok;obtain⟨⟨aT,rfl,hS⟩,hO2⟩:=hp;obtain⟨hll,hf⟩:=mG (bN s) hw;have hvb: ∀g,aT.ownBlock=some g->g<w2.heap.size/\g≠b:=fun g hg=>by have:=hS.block hg;exact⟨this.2,by omega⟩
  have sG:=af (hS.reads dX);obtain⟨va,vc,rfl⟩:=hS.sl;have vE:=af (h.out.nil' hO2);change Hid _ at hf hok hvb;clear hw hS hO2 h;go_wp2_with fail
  go_loopg[23] l.length (fun gg ZO wr=> ∃(k:Nat) (p:EG) (mv nv:Value),k<=l.length/\gg=l.length-k/\ZO=.int .i64 k/\Aside (uz W0 wr b p mv nv (Je (l.take k)) (Jf (l.take k))/\ai [b] w2 wr/\((∀g,mv.ownBlock=some g->w2.heap.size<=g)/\(∀g,nv.ownBlock=some g->w2.heap.size<=g))/\(l.take k).all jK=true))
  case atStart=>exact⟨0,_,_,_,by omega,by omega,rfl,vE.out,ai.refl _ _,⟨fun g hg=>(by cases hg),fun g hg=>(by cases hg)⟩,by simp⟩
  case round=>
   obtain⟨k,p,mv,nv,hk,rfl,rfl,hP,hOb,hrg,hgood⟩:=hrel;have k0:(0:Int)<=k:=by omega
   by_cases hlt:k<l.length
   ·have k1:(k:Int)<l.length:=by omega
    have hwk:IntKind.i64.wrap ((k:Int)+1)=(k:Int)+1:=IntWalk.i64_in _ (by omega);obtain⟨b1,o1,rfl,c0,c1,c2,c3⟩:=(sG.out.own hOb (fun g hg=>by have:=(hvb.out g hg).2;simpa using this)).fld hlt;have hstep:=fun hp=>SF (l:=l) hlt hp
    have hL1:(Je (l.take k)).length<=256:=Nat.le_trans (SG _) (by rw[List.length_take];omega);have hL2:(Jf (l.take k)).length<=256:=Nat.le_trans (SH _) (by rw[List.length_take];omega);have hnext:jK l[k]=true->(l.take (k+1)).all jK=true:=fun hh=>by
     rw[List.take_succ_eq_append_getElem hlt,List.all_append,hgood];simp[hh]
    have hbad:jK l[k]=false->ok=false:=fun hh=>by
     have hr:=hok.out;rw[show l.all jK=false by rw[List.all_eq_false];exact⟨l[k],List.getElem_mem hlt,by simp[hh]⟩]at hr;simpa using hr.symm
    generalize l[k]=f at*;generalize Je (l.take k)=LM at*;generalize Jf (l.take k)=LN at*;generalize hLM:Je (l.take (k+1))=LM' at*;generalize hLN:Jf (l.take (k+1))=LN' at*;change Hid _ at hLM hLN;have hA:=(ai.refl [] wr).alloc (.cells (fL f).toArray 100);have cT:=GQ W0 _ b p mv nv (LM,LN) f (hP.nil' hA) hL1 hL2;have hszA:=hA.size;obtain⟨⟨d0,d1,d2,d3⟩,-⟩:=q4 (heap_alloc_new wr (.cells (fL f).toArray 100));obtain⟨f1,f2,f3,f4⟩:=f;unfold fL at*;simp only at*;cases hpf:jK ⟨f1,f2,f3,f4⟩with
    |true=>
     rw[hstep hpf]at cT;unfold kR at cT;have hg:=af (hnext hpf);replace cT:=af cT;have Xj:=af (hOb.trans hA.nil);have UH:=af (hOb.trans (hA.nil (S:=[b]))).size;change Hid _ at hrg;clear hstep hnext hbad hgood hpf hP hOb hA hszA vE hL1 hL2;go_wp2_with fail
     refine cT.out.mono ?_;rintro e w5 ⟨rfl,p',mv',Vo,hP',jk,hg1,hg2⟩;have QT:=af (Xj.out.trans' jk (fun x hx=>by
      rcases List.mem_cons.1 hx with rfl|hx
      ·exact .inl (by simp)
      ·rcases List.mem_append.1 hx with hx|hx
       ·exact .inr (hrg.out.1 x (Option.mem_toList.1 hx))
       ·exact .inr (hrg.out.2 x (Option.mem_toList.1 hx))))
     have Xk:=af (show(∀g,mv'.ownBlock=some g->w2.heap.size<=g)/\(∀g,Vo.ownBlock=some g->w2.heap.size<=g)from⟨fun g hg=>(hg1 g hg).elim (fun h4=>hrg.out.1 g h4) (fun h4=>Nat.le_trans UH.out h4),fun g hg=>(hg2 g hg).elim (fun h4=>hrg.out.2 g h4) (fun h4=>Nat.le_trans UH.out h4)⟩);change Hid _ at hP';clear jk hg1 hg2 d0 d1 d2 d3 cT;go_wp2_with fail
     go_roundg(l.length-(k+1))
     case measure=>omega
     case rel=>exact⟨k+1,_,_,_,by omega,rfl,by simp,by rw[hLM.out,hLN.out];exact hP'.out,QT.out,Xk.out,hg.out⟩
    |false=>
     rw[show bX (LM,LN) ⟨f1,f2,f3,f4⟩=none by unfold bX;rw[if_neg (by rw[hpf];simp)]]at cT;unfold kR at cT;have aF:=af (hbad hpf);replace cT:=af cT;clear hstep hnext hbad hgood hpf hP hOb hA hszA vE hL1 hL2;go_wp2_with fail
     refine cT.out.mono ?_;rintro e w5 ⟨⟨ec,ay,rfl⟩,aB⟩;have q:(ec !=0)=true:=by simpa using ay
     change Hid _ at ay aB;go_wp2_with fail
     go_ret
     exact uZ aF.out ay.out aB.out
   ·have k1: ¬(k:Int)<l.length:=by omega
    rw[List.take_of_length_le (by omega)]at hgood hP;have cD:=GX g W0 wr b p mv nv (Je l) (Jf l) deep hP (VY hf.out) (VZ hf.out) Js.out IH.out;have hok2:=hok.out;rw[hgood,Bool.true_and]at hok2;rw[hok2]at cD;clear hgood hP hOb hrg hok hok2 vE;unfold Bw at cD;cases ok with
    |false=>
     replace cD:=af cD;go_wp2_with fail
     refine cD.out.mono ?_;rintro e w5 ⟨⟨ec,ay,rfl⟩,aB⟩;change Hid _ at ay aB;go_wp2_with fail
     go_ret
     exact⟨⟨ec,ay.out,rfl⟩,aB.out⟩
    |true=>
     replace cD:=af cD;go_wp2_with fail
     refine cD.out.mono ?_;rintro e w5 ⟨rfl,hx,aB⟩;change Hid _ at hx aB;go_wp2_with fail
     go_ret
     exact⟨rfl,hx.out,aB.out⟩
theorem c5q{w:World}{b:Nat}{x0 x1 x2 x3 x4:Value}{T:TypeId}(h:w.heap[b]?=some (.cells #[x0,x1,x2,x3,x4] T (0,0))):
  w.cell? ⟨b,0,none⟩=some x0/\w.cell? ⟨b,1,none⟩=some x1/\w.cell? ⟨b,2,none⟩=some x2/\w.cell? ⟨b,3,none⟩=some x3/\w.cell? ⟨b,4,none⟩=some x4:=
 ⟨cell_of_row _ _ 0 _ _ _ h,cell_of_row _ _ 1 _ _ _ h,cell_of_row _ _ 2 _ _ _ h,cell_of_row _ _ 3 _ _ _ h,cell_of_row _ _ 4 _ _ _ h⟩
theorem z5q{w:World}{b:Nat}{x0 x1 x2 x3 x4:Value}{T:TypeId}(h:w.heap[b]?=some (.cells #[x0,x1,x2,x3,x4] T (0,0))):
  w.frozen? ⟨b,0,none⟩=false/\w.frozen? ⟨b,1,none⟩=false/\w.frozen? ⟨b,2,none⟩=false/\w.frozen? ⟨b,3,none⟩=false/\w.frozen? ⟨b,4,none⟩=false/\b<w.heap.size:=
 ⟨frozen_of_row w b 0 _ _ h,frozen_of_row w b 1 _ _ h,frozen_of_row w b 2 _ _ h,frozen_of_row w b 3 _ _ h,frozen_of_row w b 4 _ _ h,aj h⟩
theorem s5q{w:World}{b:Nat}{x0 x1 x2 x3 x4:Value}{T:TypeId}(h:w.heap[b]?=some (.cells #[x0,x1,x2,x3,x4] T (0,0)))(u0 u1 u2 u3 u4:Value):
  (((((w.setCell ⟨b,0,none⟩ u0).setCell ⟨b,1,none⟩ u1).setCell ⟨b,2,none⟩ u2).setCell ⟨b,3,none⟩ u3).setCell ⟨b,4,none⟩ u4).heap[b]?=some (.cells #[u0,u1,u2,u3,u4] T (0,0))/\ai [b] w (((((w.setCell ⟨b,0,none⟩ u0).setCell ⟨b,1,none⟩ u1).setCell ⟨b,2,none⟩ u2).setCell ⟨b,3,none⟩ u3).setCell ⟨b,4,none⟩ u4):=by
 have h0:=heap_setCell_same w b 0 _ T u0 h;have h1:=heap_setCell_same _ b 1 _ T u1 h0;have h2:=heap_setCell_same _ b 2 _ T u2 h1;have h3:=heap_setCell_same _ b 3 _ T u3 h2;have h4:=heap_setCell_same _ b 4 _ T u4 h3;exact⟨by simpa using h4,((((((ai.refl [b] w).setCell (.inl (by simp)) _).setCell (.inl (by simp)) _).setCell (.inl (by simp)) _).setCell (.inl (by simp)) _).setCell (.inl (by simp)) _)⟩
theorem SK{ok:Bool}{w w':World}{e:Ending}(z1 z2:ByteArray)(z3:Bool)(a1:Option Addr)(n1 k1:Nat)(a2:Option Addr)(n2 k2:Nat)(h:ok=true)(he:e=.returned (.tuple #[.agg #[.string z1,.string z2,.bool z3,.slice a1 n1 k1,.slice a2 n2 k2],.int .i64 0]))(ho:ai [] w w'):Br ok w e w':=by subst h;exact⟨⟨z1,z2,z3,a1,n1,k1,a2,n2,k2,he⟩,ho⟩
theorem P6{ok:Bool}{w w':World}{e:Ending}{ec:Int}(z1 z2:ByteArray)(z3:Bool)(a1:Option Addr)(n1 k1:Nat)(a2:Option Addr)(n2 k2:Nat)(h:ok=false)(ay:ec≠0)(he:e=.returned (.tuple #[.agg #[.string z1,.string z2,.bool z3,.slice a1 n1 k1,.slice a2 n2 k2],.int .i64 ec]))(ho:ai [] w w'):Br ok w e w':=by subst h;exact⟨⟨z1,z2,z3,a1,n1,k1,a2,n2,k2,ec,ay,he⟩,ho⟩
theorem SL(g:List Int->Option PM)(deep:Int)(IH:LC g deep):D8 (AP (fun C=>(g C).isSome)) deep:=by
 intro t w hs hK;have hA:=(ai.refl [] w).alloc (.cells #[.string ⟨#[]⟩,.string ⟨#[]⟩,.bool false,.slice none 0 0,.slice none 0 0] 249);have fU:=heap_alloc_new w (.cells #[.string ⟨#[]⟩,.string ⟨#[]⟩,.bool false,.slice none 0 0,.slice none 0 0] 249);have hB:=(ai.refl [] (w.alloc (.cells #[.string ⟨#[]⟩,.string ⟨#[]⟩,.bool false,.slice none 0 0,.slice none 0 0] 249))).alloc (.cells #[.string ⟨#[]⟩,.string ⟨#[]⟩,.bool false,.slice none 0 0,.slice none 0 0,.slice none 0 0,.slice none 0 0] 551);have cR:=GY g (w.alloc (.cells #[.string ⟨#[]⟩,.string ⟨#[]⟩,.bool false,.slice none 0 0,.slice none 0 0] 249)) _ (w.heap.size+1) ⟨⟨#[]⟩,⟨#[]⟩,false⟩ t deep ⟨hB,heap_alloc2_new w _ _,by simp,Sl.nil _ _ _,Sl.nil _ _ _,fun g hg=>(by cases hg),fun g hg=>(by cases hg),fun g hg=>(by cases hg)⟩ hs (hK.own hA) IH;generalize AP (fun C=>(g C).isSome) (ak t)=ok at*;replace cR:=af cR;clear hB hK IH hs;go_enter Tryz.func393,Tryz.ntmps393
 go_wp2_with fail
 refine cR.out.mono ?_;intro e w3 hp;clear cR;generalize hrb:w.heap.size=rb at*;change Hid _ at hrb;cases ok with
 |false=>
  obtain⟨⟨ec,ay,rfl⟩,hO⟩:=hp;have hO3:=hA.trans hO;have bY:=hO.heap fU (by simp);obtain⟨y0,y1,y2,y3,y4,_⟩:=z5q bY;obtain⟨r0,r1,r2,r3,r4⟩:=c5q bY;obtain⟨hs3,aJ⟩:=s5q bY (.string ⟨#[]⟩) (.string ⟨#[]⟩) (.bool false) (.slice none 0 0) (.slice none 0 0);change Hid _ at hs3;replace aJ:=af (hO3.trans' aJ (fun x hx=>.inr (by simp at hx;have:=hrb.out;omega)));have q:(ec !=0)=true:=by simpa using ay
  change Hid _ at ay;clear hA hO fU bY hO3;go_wp2_with fail
  obtain⟨g0,g1,g2,g3,g4⟩:=c5q hs3.out;exact bodyPost_ret (v:=.tuple #[.agg #[.string ⟨#[]⟩,.string ⟨#[]⟩,.bool false,.slice none 0 0,.slice none 0 0],.int .i64 ec]) (by simp[results,Tryz.results393,go_sem,g0,g1,g2,g3,g4];try rfl) rfl (P6 _ _ _ _ _ _ _ _ _ rfl ay.out rfl aJ.out)
 |true=>
  obtain⟨rfl,⟨⟨p1,p2,p3⟩,⟨a3,n3,k3⟩,⟨a4,n4,k4⟩,⟨a5,n5,k5⟩,⟨a6,n6,k6⟩,hx⟩,hO⟩:=hp;simp only at hx;obtain⟨e0,e1,e2,e3,e4,_,_⟩:=c7 hx;have hO3:=hA.trans hO;have bY:=hO.heap fU (by simp);obtain⟨y0,y1,y2,y3,y4,_⟩:=z5q bY;obtain⟨r0,r1,r2,r3,r4⟩:=c5q bY;obtain⟨hs3,aJ⟩:=s5q bY (.string p1) (.string p2) (.bool p3) (.slice a3 n3 k3) (.slice a4 n4 k4);change Hid _ at hs3;replace aJ:=af (hO3.trans' aJ (fun x hx=>.inr (by simp at hx;have:=hrb.out;omega)));clear hA hO fU bY hO3 hx;go_wp2_with fail
  obtain⟨g0,g1,g2,g3,g4⟩:=c5q hs3.out;exact bodyPost_ret (v:=.tuple #[.agg #[.string p1,.string p2,.bool p3,.slice a3 n3 k3,.slice a4 n4 k4],.int .i64 0]) (by simp[results,Tryz.results393,go_sem,g0,g1,g2,g3,g4];try rfl) rfl (SK _ _ _ _ _ _ _ _ _ rfl rfl aJ.out)
def bP.none:bP:=⟨⟨#[]⟩,false,0,0,0,false,false,false,(Option.none,0,0),(Option.none,0,0),0,0,⟨#[]⟩,(Option.none,0,0),(Option.none,0,0)⟩
theorem Jg{r:Option PM}{w w':World}{ec:Int}(h:r=Option.none)(ay:ec≠0)(ho:ai [] w w'):qV r w (.returned (.tuple #[.agg #[.string ⟨#[]⟩,.bool false,.int .u64 0,.int .u64 0,.int .u32 0,.bool false,.bool false,.bool false,.slice none 0 0,.slice none 0 0,.int .i64 0,.int .u64 0,.string ⟨#[]⟩,.slice none 0 0,.slice none 0 0],.int .i64 ec])) w':=by subst h;exact⟨⟨bP.none,ec,ay,rfl⟩,ho⟩
theorem V3{r:Option PM}{w w':World}{x:MT}(s1 s2 s3 s4:Sh)(h:r=some x.m)(hx:x.Ok)(ho:ai [] w w'):qV r w (.returned (.tuple #[.agg #[.string x.m.name,.bool x.m.has,.int .u64 x.m.al,.int .u64 x.m.time,.int .u32 x.m.ty,.bool x.m.hist,.bool x.m.trans,.bool x.m.null,.slice s1.a s1.n s1.c,.slice s2.a s2.n s2.c,.int .i64 x.m.v.k,.int .u64 x.m.v.n,.string x.m.v.s,.slice s3.a s3.n s3.c,.slice s4.a s4.n s4.c],.int .i64 0])) w':=by
 subst h;obtain⟨a1,a2,a3,a4,a5,a6,a7,a8,a9,Ii,Ij⟩:=hx;exact⟨⟨⟨x.m.name,x.m.has,x.m.al,x.m.time,x.m.ty,x.m.hist,x.m.trans,x.m.null,(s1.a,s1.n,s1.c),(s2.a,s2.n,s2.c),x.m.v.k,x.m.v.n,x.m.v.s,(s3.a,s3.n,s3.c),(s4.a,s4.n,s4.c)⟩,rfl,⟨a4,a5,a6,a7,(show(-9223372036854775808:Int)<=x.m.v.k by omega),(show x.m.v.k<=(9223372036854775807:Int)by omega),Ii,Ij⟩,rfl⟩,ho⟩
theorem LF(g:List Int->Option PM)(hg: ∀B,g B=Option.none)(d:Int)(hd:8<d)(hd2:d<=100):LC g d:=by
 intro t w hs hK;rw[hg];have hA:=(ai.refl [] w).alloc (.cells #[.string ⟨#[]⟩,.bool false,.int .u64 0,.int .u64 0,.int .u32 0,.bool false,.bool false,.bool false,.slice none 0 0,.slice none 0 0,.int .i64 0,.int .u64 0,.string ⟨#[]⟩,.slice none 0 0,.slice none 0 0] 109);have fU:=heap_alloc_new w (.cells #[.string ⟨#[]⟩,.bool false,.int .u64 0,.int .u64 0,.int .u32 0,.bool false,.bool false,.bool false,.slice none 0 0,.slice none 0 0,.int .i64 0,.int .u64 0,.string ⟨#[]⟩,.slice none 0 0,.slice none 0 0] 109);obtain⟨y0,y1,y2,y3,y4,y5,y6,y7,y8,y9,wK,wL,wM,y13,X8,_⟩:=Yl fU;obtain⟨r0,r1,r2,r3,r4,r5,r6,r7,r8,r9,M0,M4,MB,M5,M6⟩:=IZ fU;clear hK hs hg;change Hid _ at hA;go_enter Tryz.func213,Tryz.ntmps213
 go_wp2_with fail
 obtain⟨g0,g1,g2,g3,g4,g5,g6,g7,g8,g9,g10,g11,g12,g13,g14⟩:=IZ fU;exact bodyPost_ret (v:=.tuple #[.agg #[.string ⟨#[]⟩,.bool false,.int .u64 0,.int .u64 0,.int .u32 0,.bool false,.bool false,.bool false,.slice none 0 0,.slice none 0 0,.int .i64 0,.int .u64 0,.string ⟨#[]⟩,.slice none 0 0,.slice none 0 0],.int .i64 12]) (by simp[results,Tryz.results213,go_sem,g0,g1,g2,g3,g4,g5,g6,g7,g8,g9,g10,g11,g12,g13,g14];try rfl) rfl (Jg rfl (by decide) hA.out)
theorem LG(G:List Int->Bool)(d:Int)(hd:0<=d/\d<=8)(IH:D8 G (d+1)):LC (fun B=>(U8 G B).map (·.m)) d:=by
 intro t w hs hK;have hA:=(ai.refl [] w).alloc (.cells #[.string ⟨#[]⟩,.bool false,.int .u64 0,.int .u64 0,.int .u32 0,.bool false,.bool false,.bool false,.slice none 0 0,.slice none 0 0,.int .i64 0,.int .u64 0,.string ⟨#[]⟩,.slice none 0 0,.slice none 0 0] 109);have fU:=heap_alloc_new w (.cells #[.string ⟨#[]⟩,.bool false,.int .u64 0,.int .u64 0,.int .u32 0,.bool false,.bool false,.bool false,.slice none 0 0,.slice none 0 0,.int .i64 0,.int .u64 0,.string ⟨#[]⟩,.slice none 0 0,.slice none 0 0] 109);have hB:=(ai.refl [] (w.alloc (.cells #[.string ⟨#[]⟩,.bool false,.int .u64 0,.int .u64 0,.int .u32 0,.bool false,.bool false,.bool false,.slice none 0 0,.slice none 0 0,.int .i64 0,.int .u64 0,.string ⟨#[]⟩,.slice none 0 0,.slice none 0 0] 109))).alloc (.cells #[.string ⟨#[]⟩,.bool false,.int .u64 0,.int .u64 0,.int .u32 0,.bool false,.bool false,.bool false,.slice none 0 0,.slice none 0 0,.int .i64 0,.int .u64 0,.string ⟨#[]⟩,.slice none 0 0,.slice none 0 0,.string ⟨#[]⟩,.bool false,.string ⟨#[]⟩,.string ⟨#[]⟩] 378);have cR:=LD G (w.alloc (.cells #[.string ⟨#[]⟩,.bool false,.int .u64 0,.int .u64 0,.int .u32 0,.bool false,.bool false,.bool false,.slice none 0 0,.slice none 0 0,.int .i64 0,.int .u64 0,.string ⟨#[]⟩,.slice none 0 0,.slice none 0 0] 109)) _ (w.heap.size+1) t d (heap_alloc2_new w (.cells #[.string ⟨#[]⟩,.bool false,.int .u64 0,.int .u64 0,.int .u32 0,.bool false,.bool false,.bool false,.slice none 0 0,.slice none 0 0,.int .i64 0,.int .u64 0,.string ⟨#[]⟩,.slice none 0 0,.slice none 0 0] 109) (.cells #[.string ⟨#[]⟩,.bool false,.int .u64 0,.int .u64 0,.int .u32 0,.bool false,.bool false,.bool false,.slice none 0 0,.slice none 0 0,.int .i64 0,.int .u64 0,.string ⟨#[]⟩,.slice none 0 0,.slice none 0 0,.string ⟨#[]⟩,.bool false,.string ⟨#[]⟩,.string ⟨#[]⟩] 378)) (by simp) hB hs (hK.own hA) (by omega) IH;show Calls _ _ _ _ (qV ((U8 G (ak t)).map (·.m)) w);generalize U8 G (ak t)=r at*;have hdd: ¬8<d:=by omega
 replace cR:=af cR;clear hB hK IH hs hd;go_enter Tryz.func213,Tryz.ntmps213
 go_wp2_with fail
 refine cR.out.mono ?_;intro e w3 hp;clear cR;generalize hrb:w.heap.size=rb at*;change Hid _ at hrb;cases r with
 |none=>
  obtain⟨⟨ec,ay,rfl⟩,hO⟩:=hp;have hO3:=hA.trans hO;have bY:=hO.heap fU (by simp);obtain⟨y0,y1,y2,y3,y4,y5,y6,y7,y8,y9,wK,wL,wM,y13,X8,_⟩:=Yl bY;obtain⟨r0,r1,r2,r3,r4,r5,r6,r7,r8,r9,M0,M4,MB,M5,M6⟩:=IZ bY;obtain⟨hs3,aJ⟩:=s15 bY (.string ⟨#[]⟩) (.bool false) (.int .u64 0) (.int .u64 0) (.int .u32 0) (.bool false) (.bool false) (.bool false) (.slice none 0 0) (.slice none 0 0) (.int .i64 0) (.int .u64 0) (.string ⟨#[]⟩) (.slice none 0 0) (.slice none 0 0);change Hid _ at hs3;replace aJ:=af (hO3.trans' aJ (fun x hx=>.inr (by simp at hx;have:=hrb.out;omega)));have q:(ec !=0)=true:=by simpa using ay
  change Hid _ at ay;clear hA hO fU bY hO3;go_wp2_with fail
  obtain⟨g0,g1,g2,g3,g4,g5,g6,g7,g8,g9,g10,g11,g12,g13,g14⟩:=IZ hs3.out;exact bodyPost_ret (v:=.tuple #[.agg #[.string ⟨#[]⟩,.bool false,.int .u64 0,.int .u64 0,.int .u32 0,.bool false,.bool false,.bool false,.slice none 0 0,.slice none 0 0,.int .i64 0,.int .u64 0,.string ⟨#[]⟩,.slice none 0 0,.slice none 0 0],.int .i64 ec]) (by simp[results,Tryz.results213,go_sem,g0,g1,g2,g3,g4,g5,g6,g7,g8,g9,g10,g11,g12,g13,g14];try rfl) rfl (Jg rfl ay.out aJ.out)
 |some x=>
  obtain⟨rfl,⟨s1,s2,s3,s4,hx⟩,hxk,hO⟩:=hp;have hO3:=hA.trans hO;have bY:=hO.heap fU (by simp);unfold vY qw at hx;have e:=fun(i:Nat) (u:Value) (hu:_)=>(vY.cell (show vY w3 (rb+1) x s1 s2 s3 s4 from hx) i (u:=u) hu).1
  have e0:w3.cell? ⟨rb+1,0,none⟩=some (.string x.m.name):=e 0 _ rfl;have e1:w3.cell? ⟨rb+1,1,none⟩=some (.bool x.m.has):=e 1 _ rfl;have e2:w3.cell? ⟨rb+1,2,none⟩=some (.int .u64 x.m.al):=e 2 _ rfl;have e3:w3.cell? ⟨rb+1,3,none⟩=some (.int .u64 x.m.time):=e 3 _ rfl;have e4:w3.cell? ⟨rb+1,4,none⟩=some (.int .u32 x.m.ty):=e 4 _ rfl;have e5:w3.cell? ⟨rb+1,5,none⟩=some (.bool x.m.hist):=e 5 _ rfl;have e6:w3.cell? ⟨rb+1,6,none⟩=some (.bool x.m.trans):=e 6 _ rfl;have e7:w3.cell? ⟨rb+1,7,none⟩=some (.bool x.m.null):=e 7 _ rfl;have e8:w3.cell? ⟨rb+1,8,none⟩=some (.slice s1.a s1.n s1.c):=e 8 _ rfl;have e9:w3.cell? ⟨rb+1,9,none⟩=some (.slice s2.a s2.n s2.c):=e 9 _ rfl;have e10:w3.cell? ⟨rb+1,10,none⟩=some (.int .i64 x.m.v.k):=e 10 _ rfl;have e11:w3.cell? ⟨rb+1,11,none⟩=some (.int .u64 x.m.v.n):=e 11 _ rfl;have e12:w3.cell? ⟨rb+1,12,none⟩=some (.string x.m.v.s):=e 12 _ rfl;have e13:w3.cell? ⟨rb+1,13,none⟩=some (.slice s3.a s3.n s3.c):=e 13 _ rfl;have e14:w3.cell? ⟨rb+1,14,none⟩=some (.slice s4.a s4.n s4.c):=e 14 _ rfl;obtain⟨y0,y1,y2,y3,y4,y5,y6,y7,y8,y9,wK,wL,wM,y13,X8,_⟩:=Yl bY;obtain⟨r0,r1,r2,r3,r4,r5,r6,r7,r8,r9,M0,M4,MB,M5,M6⟩:=IZ bY;obtain⟨hs3,aJ⟩:=s15 bY (.string x.m.name) (.bool x.m.has) (.int .u64 x.m.al) (.int .u64 x.m.time) (.int .u32 x.m.ty) (.bool x.m.hist) (.bool x.m.trans) (.bool x.m.null) (.slice s1.a s1.n s1.c) (.slice s2.a s2.n s2.c) (.int .i64 x.m.v.k) (.int .u64 x.m.v.n) (.string x.m.v.s) (.slice s3.a s3.n s3.c) (.slice s4.a s4.n s4.c);change Hid _ at hs3;replace aJ:=af (hO3.trans' aJ (fun x hx=>.inr (by simp at hx;have:=hrb.out;omega)));change Hid _ at hxk;clear hA hO fU bY hO3 hx e;go_wp2_with fail
  obtain⟨g0,g1,g2,g3,g4,g5,g6,g7,g8,g9,g10,g11,g12,g13,g14⟩:=IZ hs3.out;exact bodyPost_ret (v:=.tuple #[.agg #[.string x.m.name,.bool x.m.has,.int .u64 x.m.al,.int .u64 x.m.time,.int .u32 x.m.ty,.bool x.m.hist,.bool x.m.trans,.bool x.m.null,.slice s1.a s1.n s1.c,.slice s2.a s2.n s2.c,.int .i64 x.m.v.k,.int .u64 x.m.v.n,.string x.m.v.s,.slice s3.a s3.n s3.c,.slice s4.a s4.n s4.c],.int .i64 0]) (by simp[results,Tryz.results213,go_sem,g0,g1,g2,g3,g4,g5,g6,g7,g8,g9,g10,g11,g12,g13,g14];try rfl) rfl (V3 s1 s2 s3 s4 rfl hxk.out aJ.out)
theorem ifm(c:Bool)(x:MT):(if c=true then some x.m else none)=(if c=true then some x else none).map (·.m):=by cases c<;>rfl
theorem V4(n:Nat)(B:List Int):MV (n+1) B=(U8 (AP fun C=>(MV n C).isSome) B).map (·.m):=by
 rw[MV,U8];cases sj B with
 |none=>rfl
 |some l=>
  simp only;cases l.foldlM bn MT.zero with
  |none=>rfl
  |some x=>exact ifm _ x
theorem Ec: ∀(n:Nat),n<=8->LC (MV n) (9-n)
 |0,_=>LF _ (fun _=>rfl) _ (by decide) (by decide)
 |n+1,hn=>by
  have ih:=Ec n (by omega);have hT:=SL _ _ ih;have h1:=LG (AP fun C=>(MV n C).isSome) (9-((n+1:Nat):Int)) (by omega) (by rw[show(9-((n+1:Nat):Int))+1=9-(n:Int)by omega];exact hT);intro t W hs hK;rw[V4];exact h1 t W hs hK
theorem SQ(s:ByteArray)(w:World)(hs:s.size<=4096)(hK:aN w): ∃w1 c,(convert 9 23 (.string s)).run Tryz.prog w=.ok (.slice (some ⟨w.heap.size,0,none⟩) s.size c) w1/\ai [] w w1/\
  Calls Tryz.prog 167 #[.slice (some ⟨w.heap.size,0,none⟩) s.size c] w1 (qV (MV 8 (ak s)) w):=by
 obtain⟨w0,c,h1,hR,hcp,gV,hsz0⟩:=nG s w;refine⟨w0,c,h1,gV,?_⟩;clear h1;have hA:=(ai.refl [] w0).alloc (.cells #[.string ⟨#[]⟩,.bool false,.int .u64 0,.int .u64 0,.int .u32 0,.bool false,.bool false,.bool false,.slice none 0 0,.slice none 0 0,.int .i64 0,.int .u64 0,.string ⟨#[]⟩,.slice none 0 0,.slice none 0 0] 109);have fU:=heap_alloc_new w0 (.cells #[.string ⟨#[]⟩,.bool false,.int .u64 0,.int .u64 0,.int .u32 0,.bool false,.bool false,.bool false,.slice none 0 0,.slice none 0 0,.int .i64 0,.int .u64 0,.string ⟨#[]⟩,.slice none 0 0,.slice none 0 0] 109);have hcv:=xE (hR.nil' hA);have cO:=Ec 8 (by omega) (strOfNums (ak s)) (w0.alloc (.cells #[.string ⟨#[]⟩,.bool false,.int .u64 0,.int .u64 0,.int .u32 0,.bool false,.bool false,.bool false,.slice none 0 0,.slice none 0 0,.int .i64 0,.int .u64 0,.string ⟨#[]⟩,.slice none 0 0,.slice none 0 0] 109)) (by rw[xB,dM];exact hs) (hK.own (gV.trans hA));rw[yS (bN s)]at cO;generalize strOfNums (ak s)=t at*;generalize MV 8 (ak s)=r at*;have aH:=gV.trans hA;have ZM:w.heap.size<=w0.heap.size:=gV.size;have cO':Hid (Calls Tryz.prog 213 #[.string t,.int .i64 1] (w0.alloc (.cells #[.string ⟨#[]⟩,.bool false,.int .u64 0,.int .u64 0,.int .u32 0,.bool false,.bool false,.bool false,.slice none 0 0,.slice none 0 0,.int .i64 0,.int .u64 0,.string ⟨#[]⟩,.slice none 0 0,.slice none 0 0] 109)) (qV r (w0.alloc (.cells #[.string ⟨#[]⟩,.bool false,.int .u64 0,.int .u64 0,.int .u32 0,.bool false,.bool false,.bool false,.slice none 0 0,.slice none 0 0,.int .i64 0,.int .u64 0,.string ⟨#[]⟩,.slice none 0 0,.slice none 0 0] 109)))):=af cO;clear hR hcp hsz0 hK cO hs hA gV;go_enter Tryz.func167,Tryz.ntmps167
 go_wp2_with fail
 refine cO'.out.mono ?_;intro e w3 hp;clear cO';generalize hrb:w0.heap.size=rb at*;change Hid _ at hrb;cases r with
 |none=>
  obtain⟨⟨⟨x1,x2,x3,x4,x5,x6,x7,x8,⟨t1,t2,t3⟩,⟨t4,t5,t6⟩,x9,x10,pz,⟨t7,t8,t9⟩,⟨Xq,Xr,t12⟩⟩,ec,ay,rfl⟩,hO⟩:=hp;unfold bP.val bP.cells;simp only;have hO3:=aH.trans hO;have bY:=hO.heap fU (by simp);obtain⟨y0,y1,y2,y3,y4,y5,y6,y7,y8,y9,wK,wL,wM,y13,X8,_⟩:=Yl bY;obtain⟨r0,r1,r2,r3,r4,r5,r6,r7,r8,r9,M0,M4,MB,M5,M6⟩:=IZ bY;obtain⟨hs3,aJ⟩:=s15 bY (.string x1) (.bool x2) (.int .u64 x3) (.int .u64 x4) (.int .u32 x5) (.bool x6) (.bool x7) (.bool x8) (.slice t1 t2 t3) (.slice t4 t5 t6) (.int .i64 x9) (.int .u64 x10) (.string pz) (.slice t7 t8 t9) (.slice Xq Xr t12);change Hid _ at hs3;replace aJ:=af (hO3.trans' aJ (fun x hx=>.inr (by simp at hx;have:=hrb.out;omega)));change Hid _ at ay;clear hO fU bY hO3 aH;go_wp2_with fail
  obtain⟨g0,g1,g2,g3,g4,g5,g6,g7,g8,g9,g10,g11,g12,g13,g14⟩:=IZ hs3.out;exact bodyPost_ret (v:=.tuple #[.agg #[.string x1,.bool x2,.int .u64 x3,.int .u64 x4,.int .u32 x5,.bool x6,.bool x7,.bool x8,.slice t1 t2 t3,.slice t4 t5 t6,.int .i64 x9,.int .u64 x10,.string pz,.slice t7 t8 t9,.slice Xq Xr t12],.int .i64 ec]) (by simp[results,Tryz.results167,go_sem,g0,g1,g2,g3,g4,g5,g6,g7,g8,g9,g10,g11,g12,g13,g14];try rfl) rfl ⟨⟨⟨x1,x2,x3,x4,x5,x6,x7,x8,⟨t1,t2,t3⟩,⟨t4,t5,t6⟩,x9,x10,pz,⟨t7,t8,t9⟩,⟨Xq,Xr,t12⟩⟩,ec,ay.out,rfl⟩,aJ.out⟩
 |some m=>
  obtain⟨⟨⟨x1,x2,x3,x4,x5,x6,x7,x8,⟨t1,t2,t3⟩,⟨t4,t5,t6⟩,x9,x10,pz,⟨t7,t8,t9⟩,⟨Xq,Xr,t12⟩⟩,hpl,hwf,rfl⟩,hO⟩:=hp;unfold bP.val bP.cells;simp only;have hO3:=aH.trans hO;have bY:=hO.heap fU (by simp);obtain⟨y0,y1,y2,y3,y4,y5,y6,y7,y8,y9,wK,wL,wM,y13,X8,_⟩:=Yl bY;obtain⟨r0,r1,r2,r3,r4,r5,r6,r7,r8,r9,M0,M4,MB,M5,M6⟩:=IZ bY;obtain⟨hs3,aJ⟩:=s15 bY (.string x1) (.bool x2) (.int .u64 x3) (.int .u64 x4) (.int .u32 x5) (.bool x6) (.bool x7) (.bool x8) (.slice t1 t2 t3) (.slice t4 t5 t6) (.int .i64 x9) (.int .u64 x10) (.string pz) (.slice t7 t8 t9) (.slice Xq Xr t12);change Hid _ at hs3;replace aJ:=af (hO3.trans' aJ (fun x hx=>.inr (by simp at hx;have:=hrb.out;omega)));change Hid _ at hpl hwf;clear hO fU bY hO3 aH;go_wp2_with fail
  obtain⟨g0,g1,g2,g3,g4,g5,g6,g7,g8,g9,g10,g11,g12,g13,g14⟩:=IZ hs3.out;exact bodyPost_ret (v:=.tuple #[.agg #[.string x1,.bool x2,.int .u64 x3,.int .u64 x4,.int .u32 x5,.bool x6,.bool x7,.bool x8,.slice t1 t2 t3,.slice t4 t5 t6,.int .i64 x9,.int .u64 x10,.string pz,.slice t7 t8 t9,.slice Xq Xr t12],.int .i64 0]) (by simp[results,Tryz.results167,go_sem,g0,g1,g2,g3,g4,g5,g6,g7,g8,g9,g10,g11,g12,g13,g14];try rfl) rfl ⟨⟨⟨x1,x2,x3,x4,x5,x6,x7,x8,⟨t1,t2,t3⟩,⟨t4,t5,t6⟩,x9,x10,pz,⟨t7,t8,t9⟩,⟨Xq,Xr,t12⟩⟩,hpl.out,hwf.out,rfl⟩,aJ.out⟩
end Go.Proofs.YtedcakchekaemaaGreatDoor
namespace Go.Proofs.YtedcakchekaemaaGreatDoor
open Go.RowKit Go.Sort Go.Lib Go.Shelf
section
variable {α : Type} {enc : α → List Value} {k : Nat}
theorem Ae[Inhabited α](hk: ∀x,(enc x).length=k)(l:List α)(t:Nat)(h:t<l.length*k):(aC enc l)[t]?=some ((flatK enc k l.toArray)[t]!):=by
 have hk0:0<k:=by
  rcases Nat.eq_zero_or_pos k with rfl|h0
  ·simp at h
  ·exact h0
 have hi:t/k<l.length:=Nat.div_lt_of_lt_mul (by rwa[Nat.mul_comm]);have hc:t%k<k:=Nat.mod_lt _ hk0;rw[get_flatK _ _ _ _ (by simpa using h)];have e:=fe hk l (t/k) (t%k) l[t/k] (List.getElem?_eq_getElem hi) hc;rw[Nat.div_add_mod' t k]at e;rw[e];have e2:l.toArray[t/k]! =l[t/k]:=by simp[hi]
 rw[e2];have hl:t%k<(enc l[t/k]).length:=by rw[hk];exact hc
 simp[hl]
variable [Inhabited α]
theorem qD.holds{T:TypeId}{w:World}{g cap:Nat}{l:List α}(h:qD T enc k w g cap l)(hk: ∀x,(enc x).length=k):HoldsK enc k w g 0 l.toArray:=by
 intro j hj;simp only[size_flatK,List.size_toArray]at hj;refine⟨?_,h.frozen _⟩;have:=h.flat (Ae hk l j hj) hj;simpa using this
theorem qD.sorted{T:TypeId}{w:World}{g cap:Nat}{l:List α}(h:qD T enc k w g cap l)(hk: ∀x,(enc x).length=k){d':Array α}(hd:d'.size=l.length)(n:Nat)(os:Array Obj):
  qD T enc k (sortWorldK enc k w g 0 n d' os) g cap d'.toList/\ai [g] w (sortWorldK enc k w g 0 n d' os):=by
 have hlt:=h.lt;obtain⟨cur,hb,h1,h2,h3,h4⟩:=h;have hheap:(putRowK enc k (Sort.ahead w n) g 0 d').heap=w.heap.modify g (onCells (putCells id 0 (flatK enc k d'))):=rfl;have hsz:(putRowK enc k (Sort.ahead w n) g 0 d').heap.size=w.heap.size:=by rw[hheap];simp
 unfold sortWorldK;refine⟨⟨putCells id 0 (flatK enc k d') cur,?_,by simpa[hd]using h1,h2,by simp[putCells,h3],?_⟩,rfl,rfl,rfl,by simp[hsz],?_⟩
 ·rw[heap_grow_old _ _ (by rw[hsz];exact hlt),hheap,Array.getElem?_modify,if_pos rfl,hb]
  rfl
 ·have hcap:l.length*k<=cap*k:=Nat.mul_le_mul_right _ h1
  apply List.ext_getElem?;intro t;by_cases ht:t<l.length*k
  ·have ht2:t<d'.toList.length*k:=by simpa[hd]using ht
   have e:=Ae hk d'.toList t ht2;rw[List.getElem?_take_of_lt ht2,e];simp only[putCells,Array.toList_mapIdx,List.getElem?_mapIdx,Array.getElem?_toList];have htc:t<cur.size:=by rw[h3];omega
   rw[Array.getElem?_eq_getElem htc];simp only[Option.map_some,size_flatK,Nat.zero_add,Nat.zero_le,true_and,Nat.sub_zero,id];rw[if_pos (by rw[hd];exact ht)]
  ·rw[List.getElem?_eq_none (by simp[hd];omega),List.getElem?_eq_none (by rw[aW hk];simp[hd];omega)]
 ·intro j hj hn
  have hjg:g≠j:=by simpa using Ne.symm (by simpa using hn)
  rw[heap_grow_old _ _ (by rw[hsz];exact hj),hheap,Array.getElem?_modify,if_neg hjg]
variable {P : Program} {ρ : Ren}
theorem Qn(L:SlLaysF0.n6 P ρ)(aE: ∀w,(isAgg (ρ.t 24)).run P w=.ok true w)(zE: ∀w,(Go.sizeOf (ρ.t 24)).run P w=.ok k w)(hk: ∀x,(enc x).length=k)(h1: ∀x,∀v∈enc x,v.oneCell'=true)(cf:α->α->Int)(hO:SWO (ltOf cf))
  (f:Nat)(eg: ∀args w,(callFunc f args).run P w=.ok (.enter f args) w)(hcmp: ∀(x y:α) (W:World),Calls P f #[.agg (enc x).toArray,.agg (enc y).toArray] W fun e w'=>e=.returned (.int .i64 (cf x y))/\ ∃q os',w'=grow (W.drewN q) os')
  {T:TypeId}{w:World}{g cap:Nat}{l:List α}(h:qD T enc k w g cap l)(hl:l.length<4611686018427387904):
  Calls P (ρ.f 6) #[.slice (some ⟨g,0,none⟩) l.length cap,.func (.func f) #[] #[]] w fun e w'=>
   e=.returned (.tuple #[])/\ ∃l',l'.Perm l/\l'.Pairwise (fun x y=>ltOf cf y x=false)/\qD T enc k w' g cap l'/\ai [g] w w':=by
 have:=AnyQ.slices_SortFunc L k aE zE enc hk h1 cf hO f #[] g 0 cap l.toArray w eg (fun m os dk _ x y=>hcmp x y _) (h.holds hk) h.lt (by simpa using hl);simp only[List.size_toArray]at this;refine this.mono ?_;rintro e w' ⟨rfl,d',n,os,⟨hp1,_,hp2⟩,hs,rfl⟩;have hd:d'.size=l.length:=by simpa using hp1
 have hrow:=h.sorted hk hd n os;refine⟨rfl,d'.toList,?_,?_,hrow.1,hrow.2⟩
 ·have e1:d'.extract 0 l.length=d':=by rw[<-hd];simp
  rw[e1]at hp2;simpa using hp2
 ·rw[List.pairwise_iff_getElem]
  intro i j hi hj hij;have hi':i<d'.size:=by simpa using hi
  have hj':j<d'.size:=by simpa using hj
  have:=hs i j (Nat.zero_le _) hij (by omega);rw[getElem!_pos d' j hj',getElem!_pos d' i hi']at this;simpa using this
end
end Go.Proofs.YtedcakchekaemaaGreatDoor
