/- Contracts of the program, part 19. -/
import Derived.Test.YtedcakchekaemaaGreatDoorMp18
set_option maxRecDepth 100000
set_option maxHeartbeats 16000000
set_option linter.all false
namespace Go.Proofs.YtedcakchekaemaaGreatDoor
open Go.RowKit
variable [Kd]
theorem kX.start{t:Option (List bN)}{w w1 w':World}{e:Ending}(h:kX t w1 e w')(ho:ai [] w w1):kX t w e w':=by
 cases t with
 |none=>exact⟨h.1,ho.trans h.2⟩
 |some l=>
  obtain⟨⟨v,h1,h2⟩,h3⟩:=h;exact⟨⟨v,h1,h2.mono ho.size⟩,ho.trans h3⟩
theorem sK(s:ByteArray)(w:World)(hs:s.size<=140737488351232): ∃w1 c,(convert 9 23 (.string s)).run Tryz.prog w=.ok (.slice (some ⟨w.heap.size,0,none⟩) s.size c) w1/\ai [] w w1/\
  Calls Tryz.prog 164 #[.slice (some ⟨w.heap.size,0,none⟩) s.size c] w1 (kX (uH (ak s)) w):=by
 obtain⟨w1,c,h1,h2,h3,h4,h5⟩:=oJ s w;refine⟨w1,c,h1,h4,(vI w1 _ _ h2 (fun b hb=>?_) h3 (bU s) (by rw[dX];exact hs)).mono fun _ _ hp=>hp.start h4⟩;simp[Value.ownBlock]at hb;omega
def Iq(ok:Bool)(l:List bN)(w:World)(e:Ending)(w':World):Prop:=
 match ok with
 |true=>(∃kv vv,e=.returned (.tuple #[kv,vv,.int .i64 0])/\Sl 100 fL 4 w.heap.size w' kv (bA l 1)/\Sl 100 fL 4 w.heap.size w' vv (bA l 2))/\ai [] w w'
 |false=>(∃ec:Int,ec≠0/\e=.returned (.tuple #[.slice none 0 0,.slice none 0 0,.int .i64 ec]))/\ai [] w w'
theorem Cu{ok:Bool}{l:List bN}{w w':World}{ec:Int}(h:ok=false)(aD:ec≠0)(ho:ai [] w w'):Iq ok l w (.returned (.tuple #[.slice none 0 0,.slice none 0 0,.int .i64 ec])) w':=by subst h;exact⟨⟨ec,aD,rfl⟩,ho⟩
def vL(f:bN):Bool:=(f.num==1||f.num==2)&&f.kind !=2
theorem xG(l:List bN):vG l=(l.all (fun f=> !vL f)&&decide ((bA l 1).length<=32)&&decide ((bA l 2).length<=32)&&decide ((bA l 1).length=(bA l 2).length)):=rfl
theorem Ir(v:Value)(l:List bN)(w:World)(h:aG fL w v l)(hl:l.length<=256):
  Calls Tryz.prog 399 #[v] w (Iq (vG l) l w):=by
 obtain⟨sa,sc,rfl⟩:=h.form;have cA:=af (fun n W (ho:ai [] w W)=>rF _ l n W (h.nil' ho) hl);rw[xG];generalize hF1:bA l 1=K at*;generalize hF2:bA l 2=V at*;obtain⟨R,hR⟩: ∃R,(l.all (fun f=> !vL f)&&decide (K.length<=32)&&decide (V.length<=32)&&decide (K.length=V.length))=R:=⟨_,rfl⟩;rw[hR];change Hid _ at hF1 hF2 hR;go_enter Tryz.func399,Tryz.ntmps399
 go_wp2_with fail
 go_loopg[11] l.length (fun g s11 wr=> ∃k:Nat,k<=l.length/\g=l.length-k/\s11=.int .i64 k/\Aside (ai [] w wr/\(l.take k).all (fun f=> !vL f)=true))
 case atStart=>exact⟨0,by omega,by omega,rfl,ai.refl _ _,by simp⟩
 case round=>
  obtain⟨k,hk,rfl,rfl,hO,hgood⟩:=hrel;have k0:(0:Int)<=k:=by omega
  by_cases hlt:k<l.length
  ·have k1:(k:Int)<l.length:=by omega
   have hwk:IntKind.i64.wrap ((k:Int)+1)=(k:Int)+1:=IntWalk.i64_in _ (by omega);obtain⟨b,o,rfl,c0,c1,c2,c3⟩:=(h.nil' hO).fld hlt;have hnext:vL l[k]=false->(l.take (k+1)).all (fun f=> !vL f)=true:=fun hh=>by
    rw[List.take_succ_eq_append_getElem hlt,List.all_append,hgood];simp[hh]
   have hall:vL l[k]=true->l.all (fun f=> !vL f)=false:=fun hh=>by
    rw[List.all_eq_false];exact⟨l[k],List.getElem_mem hlt,by simp[hh]⟩
   generalize l[k]=f at*;obtain⟨f1,f2,f3,f4⟩:=f;simp only at c0 c1 c2 c3;have hA:=(ai.refl [] wr).alloc (.cells #[.int .i64 f1,.int .i64 f2,.int .u64 f3,.string f4] 100);obtain⟨⟨d0,d1,d2,d3⟩,_⟩:=q4 (heap_alloc_new wr (.cells #[.int .i64 f1,.int .i64 f2,.int .u64 f3,.string f4] 100));have hO2:=af (hO.trans hA);unfold vL at hnext hall;simp only at hnext hall;clear hA hO hgood h;cases q1:f1==1<;>cases q2:f1==2<;>cases qk:f2 !=2;all_goals
    rw[q1,q2,qk]at hnext hall
    first
     |(have hg:=af (hnext rfl)
       clear hnext hall;go_wp2_with fail
       go_roundg(l.length-(k+1))
       case measure=>omega
       case rel=>exact⟨k+1,by omega,rfl,by simp,hO2.out,hg.out⟩)
     |(have hg:=hall rfl
       have JX:R=false:=by
        have hr:=hR.out;rw[show(l.all fun f=> !vL f)=false from hg]at hr;simpa using hr.symm
       change Hid _ at JX;clear hnext hall hg;go_wp2_with fail
       go_ret3
       exact Cu JX.out (by decide) hO2.out)
  ·have k1: ¬(k:Int)<l.length:=by omega
   rw[List.take_of_length_le (by omega)]at hgood;have hR2:=hR.out;rw[hgood]at hR2;change Hid _ at hR2;have hOh:=af hO;clear h hgood hR;go_wp2_with fail
   refine(cA.out 1 wr hOh.out).mono ?_;rintro e w1 ⟨kv,rfl,hS1,aL⟩;rw[hF1.out]at hS1;obtain⟨ka,kc,rfl⟩:=hS1.sl;have acC:=hOh.out.trans aL;replace hS1:=hS1.mono hOh.out.size;replace hS1:=af hS1;have X5:=af acC;clear aL acC hOh;go_wp2_with fail
   refine(cA.out 2 w1 X5.out).mono ?_;rintro e w2 ⟨vv,rfl,hS2,hO2⟩;rw[hF2.out]at hS2;obtain⟨va,vc,rfl⟩:=hS2.sl;have X6:=af (X5.out.trans hO2);have UC:=af (hS1.out.nil' hO2);replace hS2:=hS2.mono X5.out.size;change Hid _ at hS2;clear hO2 hS1 X5 cA;by_cases h1:(32:Int)<K.length
   ·have JX:R=false:=by
     have hr:=hR2.out;rw[show decide (K.length<=32)=false by simp;omega]at hr;simpa using hr.symm
    change Hid _ at JX;clear hR2 UC hS2;generalize K.length=n1 at*;generalize V.length=n2 at*;go_wp2_with fail
    go_ret3
    exact Cu JX.out (by decide) X6.out
   ·by_cases h2:(32:Int)<V.length
    ·have JX:R=false:=by
      have hr:=hR2.out;rw[show decide (V.length<=32)=false by simp;omega]at hr;simpa using hr.symm
     change Hid _ at JX;clear hR2 UC hS2;generalize K.length=n1 at*;generalize V.length=n2 at*;go_wp2_with fail
     go_ret3
     exact Cu JX.out (by decide) X6.out
    ·by_cases h3:K.length=V.length
     ·have Gg:R=true:=by
       have hr:=hR2.out;rw[show decide (K.length<=32)=true by simp;omega,show decide (V.length<=32)=true by simp;omega,show decide (K.length=V.length)=true by simpa using h3]at hr;exact hr.symm
      change Hid _ at Gg;have q:((K.length:Int)!=(V.length:Int))=false:=by simp[h3]
      have h3':=af h3;clear hR2 h3;have hfin:Hid (Iq true l w (.returned (.tuple #[.slice ka K.length kc,.slice va V.length vc,.int .i64 0])) w2):=af ⟨⟨_,_,rfl,by rw[hF1.out];exact UC.out,by rw[hF2.out];exact hS2.out⟩,X6.out⟩;clear UC hS2;generalize K.length=n1 at*;generalize V.length=n2 at*;go_wp2_with fail
      go_ret3
      rw[Gg.out];exact hfin.out
     ·have JX:R=false:=by
       have hr:=hR2.out;rw[show decide (K.length=V.length)=false by simpa using h3]at hr;simpa using hr.symm
      have q:((K.length:Int)!=(V.length:Int))=true:=by simp;omega
      change Hid _ at JX;clear hR2 UC hS2 h3;generalize K.length=n1 at*;generalize V.length=n2 at*;go_wp2_with fail
      go_ret3
      exact Cu JX.out (by decide) X6.out
structure QS where
 key:ByteArray
 ty:Int
 nu:Bool
 k:Int
 n:Int
 s:ByteArray
 a:Option Addr
 l:Nat
 c:Nat
def QS.zero:QS:=⟨⟨#[]⟩,0,false,0,0,⟨#[]⟩,none,0,0⟩
def ME(x:QS):List Value:=[.string x.key,.int .u32 x.ty,.bool x.nu,.int .i64 x.k,.int .u64 x.n,.string x.s,.slice x.a x.l x.c]
def Cw(ok:Bool)(w:World)(e:Ending)(w':World):Prop:=
 match ok with
 |true=>(∃x:QS,e=.returned (.tuple #[.agg (ME x).toArray,.int .i64 0]))/\ai [] w w'
 |false=>(∃(x:QS) (ec:Int),ec≠0/\e=.returned (.tuple #[.agg (ME x).toArray,.int .i64 ec]))/\ai [] w w'
def kY(ok:Bool)(w:World)(e:Ending)(w':World):Prop:=
 match ok with
 |true=>(∃a n c,e=.returned (.tuple #[.slice a n c,.int .i64 0]))/\ai [] w w'
 |false=>(∃ec:Int,ec≠0/\e=.returned (.tuple #[.slice none 0 0,.int .i64 ec]))/\ai [] w w'
theorem kY.start{ok:Bool}{w w1 w':World}{e:Ending}(h:kY ok w1 e w')(ho:ai [] w w1):kY ok w e w':=by
 cases ok
 ·exact⟨h.1,ho.trans h.2⟩
 ·exact⟨h.1,ho.trans h.2⟩
theorem Cx{ok:Bool}{w w':World}{ec:Int}(x:QS)(h:ok=false)(aD:ec≠0)(ho:ai [] w w'):Cw ok w (.returned (.tuple #[.agg (ME x).toArray,.int .i64 ec])) w':=by subst h;exact⟨⟨x,ec,aD,rfl⟩,ho⟩
theorem QT{ok:Bool}{w w':World}(x:QS)(h:ok=true)(ho:ai [] w w'):Cw ok w (.returned (.tuple #[.agg (ME x).toArray,.int .i64 0])) w':=by subst h;exact⟨⟨x,rfl⟩,ho⟩
def ZC(g:List Int->Bool)(deep:Int):Prop:= ∀(t:ByteArray) (W:World),t.size<=4096->aS W-> ∃w1 c,(convert 9 23 (.string t)).run Tryz.prog W=.ok (.slice (some ⟨W.heap.size,0,none⟩) t.size c) w1/\ai [] W w1/\
 Calls Tryz.prog 391 #[.slice (some ⟨W.heap.size,0,none⟩) t.size c,.int .i64 deep] w1 (kY (g (ak t)) W)
theorem EP{x y:Bool×ByteArray}{f:bN}(h:dw x f=some y)(hx:x.2.size<=4096)(hf:f.Ok):y.2.size<=4096:=by
 unfold dw at h;split at h
 ·split at h
  ·simp only[Option.some.injEq]at h;subst h;exact hx
  ·cases h
 ·split at h
  ·split at h
   ·simp only[Option.some.injEq]at h;subst h;exact hx
   ·cases h
  ·split at h
   ·split at h
    ·simp only[Option.some.injEq]at h;subst h;exact hf.t
    ·cases h
   ·split at h
    ·obtain⟨v,_,rfl⟩:=Option.map_eq_some_iff.1 h
     exact hx
    ·simp only[Option.some.injEq]at h;subst h;exact hx
structure PrJ (w wr:World) (rb xb:Nat) (l:List bN) (R:Option (Bool×ByteArray)) (k:Nat) (st:Bool×ByteArray):Prop where
 own:ai [] w wr
 res:wr.heap[rb]?=some (.cells #[.string ⟨#[]⟩,.int .u32 0,.bool false,.int .i64 0,.int .u64 0,.string ⟨#[]⟩,.slice none 0 0] 363 (0,0))
 fo: ∃x:Fo,nV wr xb x/\x.st=st
 now:(l.drop k).foldlM dw st=R
 sz:st.2.size<=4096
theorem PrJ.step{w wr:World}{rb xb:Nat}{l:List bN}{R:Option (Bool×ByteArray)}{k:Nat}{st:Bool×ByteArray}(h:PrJ w wr rb xb l R k st)(hk:k<l.length):
  (match dw st l[k]with|none=>R=none|some v'=>(l.drop (k+1)).foldlM dw v'=R):=by
 have:=h.now;rw[List.drop_eq_getElem_cons hk,List.foldlM_cons]at this;cases hv:dw st l[k]with
 |none=>rw[hv]at this;exact this.symm
 |some v'=>rw[hv]at this;exact this
theorem MF(g:List Int->Bool)(deep:Int)(key s:ByteArray)(w:World)(hs:s.size<=4096)(hK:aS w)(hd:0<=deep/\deep<=100)(IH:ZC g (deep+1)):
  Calls Tryz.prog 400 #[.string key,.string s,.int .i64 deep] w (Cw (zh g (ak s)) w):=by
 obtain⟨ok,hok⟩: ∃ok,zh g (ak s)=ok:=⟨_,rfl⟩;rw[hok];unfold zh at hok;have hA:=(ai.refl [] w).alloc (.cells #[.string ⟨#[]⟩,.int .u32 0,.bool false,.int .i64 0,.int .u64 0,.string ⟨#[]⟩,.slice none 0 0] 363);have gL:=heap_alloc_new w (.cells #[.string ⟨#[]⟩,.int .u32 0,.bool false,.int .i64 0,.int .u64 0,.string ⟨#[]⟩,.slice none 0 0] 363);obtain⟨w1,c,hcv,aL,cW⟩:=sK s (w.alloc (.cells #[.string ⟨#[]⟩,.int .u32 0,.bool false,.int .i64 0,.int .u64 0,.string ⟨#[]⟩,.slice none 0 0] 363)) (by omega);rw[show(w.alloc (.cells #[.string ⟨#[]⟩,.int .u32 0,.bool false,.int .i64 0,.int .u64 0,.string ⟨#[]⟩,.slice none 0 0] 363)).heap.size=w.heap.size+1 by simp]at hcv cW;replace cW:=af cW;go_enter Tryz.func400,Tryz.ntmps400
 go_wp2_with fail
 refine cW.out.mono ?_;intro e w2 hp;have Lb:=af hK;clear hK cW hcv;cases hw:uH (ak s)with
 |none=>
  rw[hw]at hp hok;obtain⟨⟨ec,aD,rfl⟩,hO2⟩:=hp;simp only at hok;replace hok:=af hok.symm;have hO3:=hA.trans hO2;have dF:=hO2.heap gL (by simp);obtain⟨r0,r1,r2,r3,r4,r5,r6⟩:=c7 dF;obtain⟨y0,y1,y2,y3,y4,y5,y6,_⟩:=z7 dF;obtain⟨hs7,qB⟩:=s7 dF (.string ⟨#[]⟩) (.int .u32 0) (.bool false) (.int .i64 0) (.int .u64 0) (.string ⟨#[]⟩) (.slice none 0 0);change Hid _ at hs7;replace qB:=af (hO3.trans' qB (fun x hx=>.inr (by simp at hx;omega)));have q:(ec !=0)=true:=by simpa using aD
  change Hid _ at aD;clear hA aL hO2 gL dF hO3;go_wp2_with fail
  obtain⟨g0,g1,g2,g3,g4,g5,g6⟩:=c7 hs7.out;exact bodyPost_ret (v:=.tuple #[.agg #[.string ⟨#[]⟩,.int .u32 0,.bool false,.int .i64 0,.int .u64 0,.string ⟨#[]⟩,.slice none 0 0],.int .i64 ec]) (by simp[results,Tryz.results400,go_sem,g0,g1,g2,g3,g4,g5,g6];try rfl) rfl (Cx QS.zero hok.out aD.out qB.out)
 |some l=>
  rw[hw]at hp hok;obtain⟨⟨aY,rfl,hS⟩,hO2⟩:=hp;have hO3:=hA.trans hO2;have dF:=hO2.heap gL (by simp);obtain⟨hl,hf⟩:=nS (bU s) hw;obtain⟨R,hR⟩: ∃R,l.foldlM dw (false,⟨#[]⟩)=R:=⟨_,rfl⟩;simp only[hR]at hok;obtain⟨va,vc,rfl⟩:=hS.sl;have uO:=hS.reads eT;have hJ0:PrJ w (w2.alloc (.cells #[.string key,.int .u32 0,.bool false,.int .i64 0,.int .u64 0,.string ⟨#[]⟩,.slice none 0 0,.string ⟨#[]⟩] 557)) w.heap.size w2.heap.size l R 0 (false,⟨#[]⟩):=
   ⟨hO3.alloc _,((ai.refl [] w2).alloc _).heap dF (by simp),⟨⟨key,0,false,PV.zero,⟨#[]⟩⟩,heap_alloc_new _ _,rfl⟩,by rw[List.drop_zero];exact hR,Nat.zero_le _⟩
  have Ya:=uO.nil' ((ai.refl [] w2).alloc (.cells #[.string key,.int .u32 0,.bool false,.int .i64 0,.int .u64 0,.string ⟨#[]⟩,.slice none 0 0,.string ⟨#[]⟩] 557));have hwx:w.heap.size<=w2.heap.size:=hO3.size;have ain:w.heap.size<w2.heap.size:=aj dF;have hvb: ∀b,(Value.slice va l.length vc).ownBlock=some b->b<w2.heap.size:=fun b hb=>(hS.block hb).2
  change Hid _ at hvb hJ0 hok hR hf;replace Ya:=af Ya;clear aL hO2 hO3 hA gL dF hS uO hw;go_wp2_with fail
  generalize(w2.alloc (.cells #[.string key,.int .u32 0,.bool false,.int .i64 0,.int .u64 0,.string ⟨#[]⟩,.slice none 0 0,.string ⟨#[]⟩] 557))=w3 at*;generalize w2.heap.size=xb at*;generalize hrb:w.heap.size=rb at*;go_loopg[30] l.length (fun g s30 wr=> ∃(k:Nat) (st:Bool×ByteArray),k<=l.length/\g=l.length-k/\s30=.int .i64 k/\Aside (PrJ w wr rb xb l R k st/\ai [xb] w3 wr))
  case atStart=>exact⟨0,_,by omega,by omega,rfl,hJ0.out,ai.refl _ _⟩
  case round=>
   obtain⟨k,st,hk,rfl,rfl,hJ,dK⟩:=hrel;have k0:(0:Int)<=k:=by omega
   by_cases hlt:k<l.length
   ·have k1:(k:Int)<l.length:=by omega
    have hwk:IntKind.i64.wrap ((k:Int)+1)=(k:Int)+1:=IntWalk.i64_in _ (by omega);obtain⟨x,hx,afs⟩:=hJ.fo;have uO:=Ya.out.own dK (fun b hb=>by have:=hvb.out b hb;simp;omega);obtain⟨b,o,rfl,c0,c1,c2,c3⟩:=uO.fld hlt;have hst:=hJ.step hlt;have hF:=hf.out l[k] (List.getElem_mem hlt);have hxl:=aj hx;have hrl:=aj hJ.res;generalize l[k]=f at*;have hA:=(ai.refl [] wr).alloc (.cells (fL f).toArray 100);have cT:=MB xb x f _ (hx.own hA (by simp)) hF (Lb.out.own (hJ.own.trans hA));rw[afs]at cT;have hres2:=hA.heap hJ.res (by simp);have dx:=hJ.own.trans hA;obtain⟨⟨d0,d1,d2,d3⟩,_⟩:=q4 (heap_alloc_new wr (.cells (fL f).toArray 100));have hsz2:=hA.size;have aaw:=fun st'=> @EP _ st st' f
    have hsz:=hJ.sz;obtain⟨f1,f2,f3,f4⟩:=f;unfold fL at*;simp only at*;unfold iJ at cT;cases hv:dw st ⟨f1,f2,f3,f4⟩with
    |none=>
     rw[hv]at cT hst;simp only at hst;subst hst;have aK:=hok.out;simp only at aK;replace aK:=af aK.symm;replace cT:=af cT;clear hv aaw hsz uO hx hok hR hJ0;go_wp2_with fail
     refine cT.out.mono ?_;rintro e w4 ⟨⟨ec,aD,rfl⟩,hO4⟩;have ul:=hO4.heap hres2 (by simp;omega);have aF:=dx.trans' hO4 (fun y hy=>.inr (by simp at hy;omega));obtain⟨r0,r1,r2,r3,r4,r5,r6⟩:=c7 ul;obtain⟨y0,y1,y2,y3,y4,y5,y6,_⟩:=z7 ul;obtain⟨hs7,qB⟩:=s7 ul (.string ⟨#[]⟩) (.int .u32 0) (.bool false) (.int .i64 0) (.int .u64 0) (.string ⟨#[]⟩) (.slice none 0 0);change Hid _ at hs7;replace qB:=af (aF.trans' qB (fun x hx=>.inr (by simp at hx;omega)));have q:(ec !=0)=true:=by simpa using aD
     change Hid _ at aD;clear hJ dK hres2 dx hO4 ul aF hA cT;go_wp2_with fail
     obtain⟨g0,g1,g2,g3,g4,g5,g6⟩:=c7 hs7.out;exact bodyPost_ret (v:=.tuple #[.agg #[.string ⟨#[]⟩,.int .u32 0,.bool false,.int .i64 0,.int .u64 0,.string ⟨#[]⟩,.slice none 0 0],.int .i64 ec]) (by simp[results,Tryz.results400,go_sem,g0,g1,g2,g3,g4,g5,g6];try rfl) rfl (Cx QS.zero aK.out aD.out qB.out)
    |some st'=>
     rw[hv]at cT hst;simp only at hst;have acJ:=aaw st' hv hsz hF;change Hid _ at hst;replace cT:=af cT;clear hv aaw hsz uO hx;go_wp2_with fail
     refine cT.out.mono ?_;rintro e w4 ⟨⟨rfl,x',hx',acK⟩,hO4⟩;have ul:=hO4.heap hres2 (by simp;omega);have aF:=dx.trans' hO4 (fun y hy=>.inr (by simp at hy;omega));have uj:=af (show PrJ w w4 rb xb l R (k+1) st' from⟨aF,ul,⟨x',hx',acK⟩,hst.out,acJ⟩);have aft:=af ((dK.trans (hA.nil)).trans hO4);clear hJ dK hres2 dx hO4 ul aF hA cT hx' hst acJ;go_wp2_with fail
     go_roundg(l.length-(k+1))
     case measure=>omega
     case rel=>exact⟨k+1,st',by omega,rfl,by simp,uj.out,aft.out⟩
   ·have k1: ¬(k:Int)<l.length:=by omega
    have tF:=hJ.now;rw[List.drop_of_length_le (by omega)]at tF;have hRs:R=some st:=tF.symm;subst hRs;have hok2:=hok.out;simp only at hok2;obtain⟨x,hx,rfl⟩:=hJ.fo;have hxl:=aj hx;have hrl:=aj hJ.res;obtain⟨e0,e1,e2,e3,e4,e5,e6,e7⟩:=c8 hx;unfold Fo.st at hok2;simp only at hok2;have hres:=hJ.res;have aF:=hJ.own;have hsz:=hJ.sz;clear tF hok hR hJ0 hJ Ya;by_cases h8:x.v.k=8
    ·have q8:(x.v.k !=8)=false:=by simp[h8]
     rw[show(x.v.k==8)=true by simpa using h8]at hok2;simp only[Bool.not_true,Bool.false_or]at hok2;unfold Fo.st at hsz;simp only at hsz;obtain⟨w5,c5,hcv,bI,cP⟩:=IH x.set wr hsz (Lb.out.own aF);have hwd:IntKind.i64.wrap (deep+1)=deep+1:=IntWalk.i64_in _ (by omega);rw[hok2]at cP;have hx6:=hx;replace cP:=af cP;replace hx6:=af hx6;clear hx IH hok2 h8;go_wp2_with fail
     refine cP.out.mono ?_;intro e w6 hp;cases ok with
     |false=>
      obtain⟨⟨ec,aD,rfl⟩,eU⟩:=hp;have Gj:=eU.heap hres (by simp);have hF7:=hx6.out.own eU (by simp);obtain⟨j6,n6⟩:=hF7.cell 6 (u:=.slice none 0 0) rfl;obtain⟨Yb,gV⟩:(w6.setCell ⟨xb,6,none⟩ (.slice none 0 0)).heap[xb]?=_/\ai [xb] w6 (w6.setCell ⟨xb,6,none⟩ (.slice none 0 0)):=⟨heap_setCell_same w6 xb 6 _ _ (.slice none 0 0) hF7,(ai.refl [xb] w6).setCell (.inl (by simp)) _⟩;have wo:=gV.heap Gj (by simp;omega);have mU:=(aF.trans eU).trans' gV (fun y hy=>.inr (by simp at hy;omega));obtain⟨r0,r1,r2,r3,r4,r5,r6⟩:=c7 wo;obtain⟨y0,y1,y2,y3,y4,y5,y6,_⟩:=z7 wo;obtain⟨hs7,qB⟩:=s7 wo (.string ⟨#[]⟩) (.int .u32 0) (.bool false) (.int .i64 0) (.int .u64 0) (.string ⟨#[]⟩) (.slice none 0 0);change Hid _ at hs7;replace qB:=af (mU.trans' qB (fun x hx=>.inr (by simp at hx;omega)));have q:(ec !=0)=true:=by simpa using aD
      change Hid _ at aD;clear hres Gj wo aF bI eU gV mU hF7 Yb hcv;go_wp2_with fail
      obtain⟨g0,g1,g2,g3,g4,g5,g6⟩:=c7 hs7.out;exact bodyPost_ret (v:=.tuple #[.agg #[.string ⟨#[]⟩,.int .u32 0,.bool false,.int .i64 0,.int .u64 0,.string ⟨#[]⟩,.slice none 0 0],.int .i64 ec]) (by simp[results,Tryz.results400,go_sem,g0,g1,g2,g3,g4,g5,g6];try rfl) rfl (Cx QS.zero rfl aD.out qB.out)
     |true=>
      obtain⟨⟨a6,l6,k6,rfl⟩,eU⟩:=hp;have Gj:=eU.heap hres (by simp);have hF7:=hx6.out.own eU (by simp);obtain⟨j6,n6⟩:=hF7.cell 6 (u:=.slice none 0 0) rfl;obtain⟨Yb,gV⟩:(w6.setCell ⟨xb,6,none⟩ (.slice a6 l6 k6)).heap[xb]?=_/\ai [xb] w6 (w6.setCell ⟨xb,6,none⟩ (.slice a6 l6 k6)):=⟨heap_setCell_same w6 xb 6 _ _ (.slice a6 l6 k6) hF7,(ai.refl [xb] w6).setCell (.inl (by simp)) _⟩;have acL:(w6.setCell ⟨xb,6,none⟩ (.slice a6 l6 k6)).heap[xb]?=some (.cells #[.string x.key,.int .u32 x.ty,.bool x.nu,.int .i64 x.v.k,.int .u64 x.v.n,.string x.v.s,.slice a6 l6 k6,.string x.set] 557 (0,0)):=Yb;obtain⟨p0,p1,p2,p3,p4,p5,p6,p7⟩:=c8 acL;have wo:=gV.heap Gj (by simp;omega);have mU:=(aF.trans eU).trans' gV (fun y hy=>.inr (by simp at hy;omega));obtain⟨r0,r1,r2,r3,r4,r5,r6⟩:=c7 wo;obtain⟨y0,y1,y2,y3,y4,y5,y6,_⟩:=z7 wo;obtain⟨hs7,qB⟩:=s7 wo (.string x.key) (.int .u32 x.ty) (.bool x.nu) (.int .i64 x.v.k) (.int .u64 x.v.n) (.string x.v.s) (.slice a6 l6 k6);change Hid _ at hs7;replace qB:=af (mU.trans' qB (fun x hx=>.inr (by simp at hx;omega)));clear hres Gj wo aF bI eU gV mU hF7 Yb acL hcv;go_wp2_with fail
      obtain⟨g0,g1,g2,g3,g4,g5,g6⟩:=c7 hs7.out;exact bodyPost_ret (v:=.tuple #[.agg #[.string x.key,.int .u32 x.ty,.bool x.nu,.int .i64 x.v.k,.int .u64 x.v.n,.string x.v.s,.slice a6 l6 k6],.int .i64 0]) (by simp[results,Tryz.results400,go_sem,g0,g1,g2,g3,g4,g5,g6];try rfl) rfl (QT ⟨x.key,x.ty,x.nu,x.v.k,x.v.n,x.v.s,a6,l6,k6⟩ rfl qB.out)
    ·have q8:(x.v.k !=8)=true:=by simpa using h8
     rw[show(x.v.k==8)=false by simpa using h8]at hok2;have jF:=hok2.symm;simp only[Bool.not_false,Bool.true_or]at jF;change Hid _ at jF;obtain⟨r0,r1,r2,r3,r4,r5,r6⟩:=c7 hres;obtain⟨y0,y1,y2,y3,y4,y5,y6,_⟩:=z7 hres;obtain⟨hs7,qB⟩:=s7 hres (.string x.key) (.int .u32 x.ty) (.bool x.nu) (.int .i64 x.v.k) (.int .u64 x.v.n) (.string x.v.s) (.slice none 0 0);change Hid _ at hs7;replace qB:=af (aF.trans' qB (fun x hx=>.inr (by simp at hx;omega)));clear hx hres aF h8 hok2;go_wp2_with fail
     obtain⟨g0,g1,g2,g3,g4,g5,g6⟩:=c7 hs7.out;exact bodyPost_ret (v:=.tuple #[.agg #[.string x.key,.int .u32 x.ty,.bool x.nu,.int .i64 x.v.k,.int .u64 x.v.n,.string x.v.s,.slice none 0 0],.int .i64 0]) (by simp[results,Tryz.results400,go_sem,g0,g1,g2,g3,g4,g5,g6];try rfl) rfl (QT ⟨x.key,x.ty,x.nu,x.v.k,x.v.n,x.v.s,none,0,0⟩ jF.out qB.out)
def Cv(ok:Bool)(w:World)(e:Ending)(w':World):Prop:=
 match ok with
 |true=>e=.returned (.int .i64 0)/\ai [] w w'
 |false=>(∃ec:Int,ec≠0/\e=.returned (.int .i64 ec))/\ai [] w w'
theorem EM{ok:Bool}{w w':World}(h:ok=true)(ho:ai [] w w'):Cv ok w (.returned (.int .i64 0)) w':=by subst h;exact⟨rfl,ho⟩
theorem zo{ok:Bool}{w w':World}{ec:Int}(h:ok=false)(aD:ec≠0)(ho:ai [] w w'):Cv ok w (.returned (.int .i64 ec)) w':=by subst h;exact⟨⟨ec,aD,rfl⟩,ho⟩
theorem EO(f:bN)(w:World):Calls Tryz.prog 414 #[.agg (fL f).toArray] w (Cv (jh f) w):=by
 have hA:=(ai.refl [] w).alloc (.cells (fL f).toArray 100);obtain⟨⟨d0,d1,d2,d3⟩,-⟩:=q4 (heap_alloc_new w (.cells (fL f).toArray 100));obtain⟨n,k,v,t⟩:=f;unfold fL at*;simp only at*;obtain⟨ok,hok⟩: ∃ok,jh ⟨n,k,v,t⟩=ok:=⟨_,rfl⟩;rw[hok];change Hid _ at hA;by_cases h1:n=1
 ·subst h1
  by_cases hk:k=0
  ·subst hk
   have ho:=af (show ok=true by rw[<-hok];simp[jh]);clear hok;go_enter Tryz.func414,Tryz.ntmps414
   go_wp2_with fail
   go_ret
   exact EM ho.out hA.out
  ·have ho:=af (show ok=false by rw[<-hok];simp[jh,hk])
   have q:(k !=0)=true:=by simpa using hk
   clear hok hk;go_enter Tryz.func414,Tryz.ntmps414
   go_wp2_with fail
   go_ret
   exact zo ho.out (by decide) hA.out
 by_cases h3:n=3
 ·subst h3
  by_cases hk:k=0
  ·subst hk
   by_cases hv:v<=4294967295
   ·have ho:=af (show ok=true by rw[<-hok];simp[jh,hv])
    have hv2: ¬4294967295<v:=by omega
    clear hok;go_enter Tryz.func414,Tryz.ntmps414
    go_wp2_with fail
    go_ret
    exact EM ho.out hA.out
   ·have ho:=af (show ok=false by rw[<-hok];simp[jh,hv])
    have hv2:4294967295<v:=by omega
    clear hok hv;go_enter Tryz.func414,Tryz.ntmps414
    go_wp2_with fail
    go_ret
    exact zo ho.out (by decide) hA.out
  ·have ho:=af (show ok=false by rw[<-hok];simp[jh,hk])
   have q:(k !=0)=true:=by simpa using hk
   clear hok hk;go_enter Tryz.func414,Tryz.ntmps414
   go_wp2_with fail
   go_ret
   exact zo ho.out (by decide) hA.out
 by_cases h2:n=2
 ·subst h2
  by_cases hk:k=2
  ·subst hk
   have ho:=af (show ok=true by rw[<-hok];simp[jh]);clear hok;go_enter Tryz.func414,Tryz.ntmps414
   go_wp2_with fail
   go_ret
   exact EM ho.out hA.out
  ·have ho:=af (show ok=false by rw[<-hok];simp[jh,hk])
   have q:(k !=2)=true:=by simpa using hk
   clear hok hk;go_enter Tryz.func414,Tryz.ntmps414
   go_wp2_with fail
   go_ret
   exact zo ho.out (by decide) hA.out
 by_cases h4:n=4
 ·subst h4
  by_cases hk:k=2
  ·subst hk
   have ho:=af (show ok=true by rw[<-hok];simp[jh]);clear hok;go_enter Tryz.func414,Tryz.ntmps414
   go_wp2_with fail
   go_ret
   exact EM ho.out hA.out
  ·have ho:=af (show ok=false by rw[<-hok];simp[jh,hk])
   have q:(k !=2)=true:=by simpa using hk
   clear hok hk;go_enter Tryz.func414,Tryz.ntmps414
   go_wp2_with fail
   go_ret
   exact zo ho.out (by decide) hA.out
 have ho:=af (show ok=true by rw[<-hok];simp[jh,h1,h2,h3,h4]);have q1:(n==1)=false:=by simpa using h1
 have q2:(n==2)=false:=by simpa using h2
 have q3:(n==3)=false:=by simpa using h3
 have q4:(n==4)=false:=by simpa using h4
 clear hok h1 h2 h3 h4;go_enter Tryz.func414,Tryz.ntmps414
 go_wp2_with fail
 go_ret
 exact EM ho.out hA.out
def wQ(l:List bN):Bool:=l.all jh&&decide ((bA l 2).length<=16)&&decide ((bA l 3).length<=16)&&decide ((bA l 4).length<=32)&&decide ((bA l 2).length=(bA l 3).length)&&decide (H9 l=(bA l 2).length)
def Iu(ok:Bool)(l:List bN)(w:World)(e:Ending)(w':World):Prop:=
 match ok with
 |true=>(∃a1 c1 a2 c2 a3 c3,e=.returned (.tuple #[.agg #[.slice a1 (bA l 2).length c1,.slice a2 (bA l 3).length c2,.slice a3 (bA l 4).length c3],.int .i64 0])/\aG fL w' (.slice a1 (bA l 2).length c1) (bA l 2)/\aG fL w' (.slice a2 (bA l 3).length c2) (bA l 3)/\aG fL w' (.slice a3 (bA l 4).length c3) (bA l 4))/\ai [] w w'
 |false=>(∃ec:Int,ec≠0/\e=.returned (.tuple #[.agg #[.slice none 0 0,.slice none 0 0,.slice none 0 0],.int .i64 ec]))/\ai [] w w'
theorem rH{ok:Bool}{l:List bN}{w w':World}{ec:Int}(h:ok=false)(aD:ec≠0)(ho:ai [] w w'):Iu ok l w (.returned (.tuple #[.agg #[.slice none 0 0,.slice none 0 0,.slice none 0 0],.int .i64 ec])) w':=by subst h;exact⟨⟨ec,aD,rfl⟩,ho⟩
theorem Iw(v:Value)(l:List bN)(w:World)(h:aG fL w v l)(hl:l.length<=256):Calls Tryz.prog 401 #[v] w (Iu (wQ l) l w):=by
 obtain⟨sa,sc,rfl⟩:=h.form;have hA:=(ai.refl [] w).alloc (.cells #[.slice none 0 0,.slice none 0 0,.slice none 0 0] 544);have hrb:=heap_alloc_new w (.cells #[.slice none 0 0,.slice none 0 0,.slice none 0 0] 544);have cA:=af (fun n W (ho:ai [] w W)=>rF _ l n W (h.nil' ho) hl);have cL:=af (fun n W (ho:ai [] w W)=>Mw _ l n W (h.nil' ho) hl);obtain⟨ok,hok⟩: ∃ok,wQ l=ok:=⟨_,rfl⟩;rw[hok];unfold wQ at hok;have hw0:ai [] w (w.alloc (.cells #[.slice none 0 0,.slice none 0 0,.slice none 0 0] 544)):=hA;go_enter Tryz.func401,Tryz.ntmps401
 go_wp2_with fail
 generalize(w.alloc (.cells #[.slice none 0 0,.slice none 0 0,.slice none 0 0] 544))=w0 at*;generalize X7:w.heap.size=rb at*;change Hid _ at X7 hok;go_loopg[12] l.length (fun g s12 wr=> ∃k:Nat,k<=l.length/\g=l.length-k/\s12=.int .i64 k/\Aside (ai [] w0 wr/\(l.take k).all jh=true))
 case atStart=>exact⟨0,by omega,by omega,rfl,ai.refl _ _,by simp⟩
 case round=>
  obtain⟨k,hk,rfl,rfl,hO,hgood⟩:=hrel;have k0:(0:Int)<=k:=by omega
  have hres:=hO.heap hrb (by simp);by_cases hlt:k<l.length
  ·have k1:(k:Int)<l.length:=by omega
   have hwk:IntKind.i64.wrap ((k:Int)+1)=(k:Int)+1:=IntWalk.i64_in _ (by omega);obtain⟨b,o,rfl,c0,c1,c2,c3⟩:=(h.nil' (hw0.trans hO)).fld hlt;have hnext:jh l[k]=true->(l.take (k+1)).all jh=true:=fun hh=>by
    rw[List.take_succ_eq_append_getElem hlt,List.all_append,hgood];simp[hh]
   have hbad:jh l[k]=false->ok=false:=fun hh=>by
    have hr:=hok.out;rw[show l.all jh=false by rw[List.all_eq_false];exact⟨l[k],List.getElem_mem hlt,by simp[hh]⟩]at hr;simpa using hr.symm
   generalize l[k]=f at*;have hA2:=(ai.refl [] wr).alloc (.cells (fL f).toArray 100);have cD:=EO f (wr.alloc (.cells (fL f).toArray 100));obtain⟨⟨d0,d1,d2,d3⟩,-⟩:=q4 (heap_alloc_new wr (.cells (fL f).toArray 100));have hO2:=hO.trans hA2;have hres2:=hA2.heap hres (by simp);unfold Cv at cD;cases hd:jh f with
   |true=>
    rw[hd]at cD;have hg:=af (hnext hd);obtain⟨f1,f2,f3,f4⟩:=f;unfold fL at*;simp only at*;replace cD:=af cD;clear hnext hbad hd hgood hres hres2 hA2 hO h hA hw0 hrb;go_wp2_with fail
    refine cD.out.mono ?_;rintro e w5 ⟨rfl,aF⟩;have bI:=af (hO2.trans aF);clear aF hO2 d0 d1 d2 d3 cD;go_wp2_with fail
    go_roundg(l.length-(k+1))
    case measure=>omega
    case rel=>exact⟨k+1,by omega,rfl,by simp,bI.out,hg.out⟩
   |false=>
    rw[hd]at cD;have aK:=af (hbad hd);obtain⟨f1,f2,f3,f4⟩:=f;unfold fL at*;simp only at*;replace cD:=af cD;clear hnext hbad hd hgood hres hA2 hO h hA;go_wp2_with fail
    refine cD.out.mono ?_;rintro e w5 ⟨⟨ec,aD,rfl⟩,aF⟩;have aX:=aF.heap hres2 (by simp);have bI:=hw0.trans (hO2.trans aF);have q:(ec !=0)=true:=by simpa using aD
    have hrw:w.heap.size<=rb:=by rw[X7.out];exact Nat.le_refl _
    obtain⟨⟨r0,r1,r2⟩,y0,y1,y2,_⟩:=q3 aX;obtain⟨hs3,aO⟩:=jJ aX (.slice none 0 0) (.slice none 0 0) (.slice none 0 0);change Hid _ at hs3;replace aO:=af (bI.trans' aO (fun x hx=>.inr (by simp at hx;omega)));change Hid _ at aD;clear aF hO2 d0 d1 d2 d3 cD aX bI hres2 hw0 hrb hrw;go_wp2_with fail
    obtain⟨⟨g0,g1,g2⟩,_⟩:=q3 hs3.out;exact bodyPost_ret (v:=.tuple #[.agg #[.slice none 0 0,.slice none 0 0,.slice none 0 0],.int .i64 ec]) (by simp[results,Tryz.results401,go_sem,g0,g1,g2];try rfl) rfl (rH aK.out aD.out aO.out)
  ·have k1: ¬(k:Int)<l.length:=by omega
   rw[List.take_of_length_le (by omega)]at hgood;have hok2:=hok.out;rw[hgood]at hok2;have iE:=hw0.trans hO;change Hid _ at hok2 hres;replace iE:=af iE;have hrw:w.heap.size<=rb:=by rw[X7.out];exact Nat.le_refl _
   clear hgood hok hO hw0 hA hrb h;go_wp2_with fail
   refine(cA.out 2 wr iE.out).mono ?_;rintro e w1 ⟨v1,rfl,hS1,aL⟩;obtain⟨a1,x1,rfl⟩:=hS1.sl;have gU:=af (hS1.reads eT);have acD:rb<wr.heap.size:=aj hres.out;have hB1: ∀g,(Value.slice a1 (bA l 2).length x1).ownBlock=some g->g∉[rb]:=fun g hg=>by have:=(hS1.block hg).1;simp;omega
   have acE:rb<w1.heap.size:=Nat.lt_of_lt_of_le acD aL.size;change Hid _ at hB1;replace aL:=af aL;clear hS1;go_wp2_with fail
   refine(cA.out 3 w1 (iE.out.trans aL.out)).mono ?_;rintro e w2 ⟨v2,rfl,hS2,hO2⟩;obtain⟨a2,x2,rfl⟩:=hS2.sl;have hR2:=af (hS2.reads eT);have hB2: ∀g,(Value.slice a2 (bA l 3).length x2).ownBlock=some g->g∉[rb]:=fun g hg=>by have:=(hS2.block hg).1;simp;omega
   have dF:rb<w2.heap.size:=Nat.lt_of_lt_of_le acE hO2.size;change Hid _ at hB2;replace hO2:=af hO2;clear hS2;go_wp2_with fail
   refine(cA.out 4 w2 (iE.out.trans (aL.out.trans hO2.out))).mono ?_;rintro e w3 ⟨v3,rfl,uh,hO3⟩;obtain⟨a3,x3,rfl⟩:=uh.sl;have fB:=af (uh.reads eT);have hB3: ∀g,(Value.slice a3 (bA l 4).length x3).ownBlock=some g->g∉[rb]:=fun g hg=>by have:=(uh.block hg).1;simp;omega
   change Hid _ at hB3 hO3;clear acD acE dF;clear uh;generalize hN:bA l 2=N at*;generalize hT:bA l 3=T at*;generalize hRw:bA l 4=Rw at*;have hAs:=(ai.refl [] w3).alloc (.cells #[.slice a1 N.length x1,.slice a2 T.length x2,.slice a3 Rw.length x3] 544);have aav:=iE.out.trans (aL.out.trans (hO2.out.trans hO3.out));have hb3:=heap_alloc_new w3 (.cells #[.slice a1 N.length x1,.slice a2 T.length x2,.slice a3 Rw.length x3] 544);have cL1:=af (cL.out 1 _ (aav.trans hAs));have Y7:=hAs.heap ((aL.out.trans (hO2.out.trans hO3.out)).heap hres.out (by simp)) (by simp);have acF:=af ((gU.out.nil' (hO2.out.trans hO3.out)).nil' hAs);have acG:=af ((hR2.out.nil' hO3.out).nil' hAs);have UD:=af (fB.out.nil' hAs);have acH:=aav.trans hAs;change Hid _ at hN hT hRw;clear gU hR2 fB cA cL aL hO2 hO3 aav iE hres hAs;go_wp2_with fail
   generalize(w3.alloc (.cells #[.slice a1 N.length x1,.slice a2 T.length x2,.slice a3 Rw.length x3] 544))=w4 at*;generalize w3.heap.size=sb at*;refine cL1.out.mono ?_;rintro e w5 ⟨⟨x,bx,rfl,hx⟩,aF⟩;obtain⟨x1',x2',xv,x4'⟩:=x;unfold fL;simp only at hx⊢;have hxq:H9 l=xv:=by rw[hx];rfl
   have hb5:=aF.heap hb3 (by simp);have aX:=aF.heap Y7 (by simp);have bI:=acH.trans aF;have hAx:=(ai.refl [] w5).alloc (.cells #[.int .i64 x1',.int .i64 x2',.int .u64 xv,.string x4'] 100);have hb6:=hAx.heap hb5 (by simp);have gq:=hAx.heap aX (by simp);have eU:=bI.trans hAx;have vY:=af ((acF.out.nil' aF).nil' hAx);have vZ:=af ((acG.out.nil' aF).nil' hAx);have wm:=af ((UD.out.nil' aF).nil' hAx);obtain⟨⟨f0,f1,f2,f3⟩,-⟩:=q4 (heap_alloc_new w5 (.cells #[.int .i64 x1',.int .i64 x2',.int .u64 xv,.string x4'] 100));obtain⟨⟨s0,s1,s2⟩,-⟩:=q3 hb6;have jm:=hok2.out;rw[hxq]at jm;change Hid _ at jm;clear hb3 hb5 Y7 aX acH aF bI hAx acF acG UD cL1 hx hxq hok2 hb6;change Hid _ at gq eU;go_upto_region 10 with(fail)
   generalize(w5.alloc (.cells #[.int .i64 x1',.int .i64 x2',.int .u64 xv,.string x4'] 100))=w6 at*;generalize w5.heap.size=xb at*;by_cases hm:N.length<T.length
   ·by_cases hT16:T.length<=16
    ·by_cases X8:Rw.length<=32
     ·have aK:=af (show ok=false by
       have hr:=jm.out;rw[show decide (N.length=T.length)=false by simp;omega]at hr;simpa using hr.symm)
      have i1:(T.length:Int)<=16:=by omega
      have i3:(Rw.length:Int)<=32:=by omega
      have i4:((N.length:Int)!=(T.length:Int))=true:=by simp;omega
      clear jm vY vZ wm;generalize N.length=n1 at*;generalize T.length=n2 at*;generalize Rw.length=n3 at*;obtain⟨⟨r0,r1,r2⟩,y0,y1,y2,_⟩:=q3 gq.out;obtain⟨hs3,aO⟩:=jJ gq.out (.slice none 0 0) (.slice none 0 0) (.slice none 0 0);change Hid _ at hs3;replace aO:=af (eU.out.trans' aO (fun x hx=>.inr (by simp at hx;omega)));clear gq eU;go_wp2_with fail
      obtain⟨⟨g0,g1,g2⟩,_⟩:=q3 hs3.out;exact bodyPost_ret (v:=.tuple #[.agg #[.slice none 0 0,.slice none 0 0,.slice none 0 0],.int .i64 4]) (by simp[results,Tryz.results401,go_sem,g0,g1,g2];try rfl) rfl (rH aK.out (by decide) aO.out)
     ·have aK:=af (show ok=false by
       have hr:=jm.out;rw[show decide (Rw.length<=32)=false by simp;omega]at hr;simpa using hr.symm)
      have i1:(T.length:Int)<=16:=by omega
      have i3:(32:Int)<Rw.length:=by omega
      clear jm vY vZ wm;generalize N.length=n1 at*;generalize T.length=n2 at*;generalize Rw.length=n3 at*;obtain⟨⟨r0,r1,r2⟩,y0,y1,y2,_⟩:=q3 gq.out;obtain⟨hs3,aO⟩:=jJ gq.out (.slice none 0 0) (.slice none 0 0) (.slice none 0 0);change Hid _ at hs3;replace aO:=af (eU.out.trans' aO (fun x hx=>.inr (by simp at hx;omega)));clear gq eU;go_wp2_with fail
      obtain⟨⟨g0,g1,g2⟩,_⟩:=q3 hs3.out;exact bodyPost_ret (v:=.tuple #[.agg #[.slice none 0 0,.slice none 0 0,.slice none 0 0],.int .i64 6]) (by simp[results,Tryz.results401,go_sem,g0,g1,g2];try rfl) rfl (rH aK.out (by decide) aO.out)
    ·have aK:=af (show ok=false by
      have hr:=jm.out;rw[show decide (T.length<=16)=false by simp;omega]at hr;simpa using hr.symm)
     have i1:(16:Int)<T.length:=by omega
     clear jm vY vZ wm;generalize N.length=n1 at*;generalize T.length=n2 at*;generalize Rw.length=n3 at*;obtain⟨⟨r0,r1,r2⟩,y0,y1,y2,_⟩:=q3 gq.out;obtain⟨hs3,aO⟩:=jJ gq.out (.slice none 0 0) (.slice none 0 0) (.slice none 0 0);change Hid _ at hs3;replace aO:=af (eU.out.trans' aO (fun x hx=>.inr (by simp at hx;omega)));clear gq eU;go_wp2_with fail
     obtain⟨⟨g0,g1,g2⟩,_⟩:=q3 hs3.out;exact bodyPost_ret (v:=.tuple #[.agg #[.slice none 0 0,.slice none 0 0,.slice none 0 0],.int .i64 6]) (by simp[results,Tryz.results401,go_sem,g0,g1,g2];try rfl) rfl (rH aK.out (by decide) aO.out)
   ·by_cases X9:N.length<=16
    ·by_cases X8:Rw.length<=32
     ·by_cases Pm:N.length=T.length
      ·by_cases hxN:xv=(N.length:Int)
       ·have jF:ok=true:=by
         have hr:=jm.out;rw[show decide (N.length<=16)=true by simpa using X9,show decide (T.length<=16)=true by simp;omega,show decide (Rw.length<=32)=true by simpa using X8,show decide (N.length=T.length)=true by simpa using Pm,show decide (xv=(N.length:Int))=true by simpa using hxN]at hr;exact hr.symm
        have i1:(N.length:Int)<=16:=by omega
        have i3:(Rw.length:Int)<=32:=by omega
        have i4:((N.length:Int)!=(T.length:Int))=false:=by simp[Pm]
        have i5:(xv !=(N.length:Int))=false:=by simp[hxN]
        have i6:IntKind.u64.wrap (N.length:Int)=N.length:=by rw[IntKind.wrap_u64];omega
        have i7:(N.length:Int)%18446744073709551616=N.length:=by omega
        have i8:((N.length:Int)!=(N.length:Int))=false:=by simp
        have hfin:Hid (∀W,ai [] w W->ai [rb] w6 W->Iu ok l w (.returned (.tuple #[.agg #[.slice a1 N.length x1,.slice a2 T.length x2,.slice a3 Rw.length x3],.int .i64 0])) W):=af fun W h1 h2=>by
         rw[jF];refine⟨⟨a1,x1,a2,x2,a3,x3,?_,?_⟩,h1⟩
         ·rw[hN.out,hT.out,hRw.out]
         ·rw[hN.out,hT.out,hRw.out]
          exact⟨vY.out.own h2 hB1.out,vZ.out.own h2 hB2.out,wm.out.own h2 hB3.out⟩
        obtain⟨⟨r0,r1,r2⟩,y0,y1,y2,_⟩:=q3 gq.out;obtain⟨hs3,aO⟩:=jJ gq.out (.slice a1 N.length x1) (.slice a2 T.length x2) (.slice a3 Rw.length x3);have hp:=hfin.out _ (eU.out.trans' aO (fun x hx=>.inr (by simp at hx;omega))) aO;change Hid _ at hs3 hp;clear aO hfin jF jm vY vZ wm hB1 hB2 hB3 X9 X8 Pm gq eU;subst hxN;generalize N.length=n1 at*;generalize T.length=n2 at*;generalize Rw.length=n3 at*;go_wp2_with fail
        obtain⟨⟨g0,g1,g2⟩,_⟩:=q3 hs3.out;exact bodyPost_ret (v:=.tuple #[.agg #[.slice a1 n1 x1,.slice a2 n2 x2,.slice a3 n3 x3],.int .i64 0]) (by simp[results,Tryz.results401,go_sem,g0,g1,g2];try rfl) rfl hp.out
       ·have aK:=af (show ok=false by
         have hr:=jm.out;rw[show decide (xv=(N.length:Int))=false by simp;omega]at hr;simpa using hr.symm)
        have i1:(N.length:Int)<=16:=by omega
        have i3:(Rw.length:Int)<=32:=by omega
        have i4:((N.length:Int)!=(T.length:Int))=false:=by simp[Pm]
        have i5:(xv !=(N.length:Int))=true:=by simpa using hxN
        have i6:IntKind.u64.wrap (N.length:Int)=N.length:=by rw[IntKind.wrap_u64];omega
        clear hxN Pm;clear jm vY vZ wm;generalize N.length=n1 at*;generalize T.length=n2 at*;generalize Rw.length=n3 at*;obtain⟨⟨r0,r1,r2⟩,y0,y1,y2,_⟩:=q3 gq.out;obtain⟨hs3,aO⟩:=jJ gq.out (.slice none 0 0) (.slice none 0 0) (.slice none 0 0);change Hid _ at hs3;replace aO:=af (eU.out.trans' aO (fun x hx=>.inr (by simp at hx;omega)));clear gq eU;go_wp2_with fail
        obtain⟨⟨g0,g1,g2⟩,_⟩:=q3 hs3.out;exact bodyPost_ret (v:=.tuple #[.agg #[.slice none 0 0,.slice none 0 0,.slice none 0 0],.int .i64 4]) (by simp[results,Tryz.results401,go_sem,g0,g1,g2];try rfl) rfl (rH aK.out (by decide) aO.out)
      ·have aK:=af (show ok=false by
        have hr:=jm.out;rw[show decide (N.length=T.length)=false by simp;omega]at hr;simpa using hr.symm)
       have i1:(N.length:Int)<=16:=by omega
       have i3:(Rw.length:Int)<=32:=by omega
       have i4:((N.length:Int)!=(T.length:Int))=true:=by simp;omega
       clear Pm;clear jm vY vZ wm;generalize N.length=n1 at*;generalize T.length=n2 at*;generalize Rw.length=n3 at*;obtain⟨⟨r0,r1,r2⟩,y0,y1,y2,_⟩:=q3 gq.out;obtain⟨hs3,aO⟩:=jJ gq.out (.slice none 0 0) (.slice none 0 0) (.slice none 0 0);change Hid _ at hs3;replace aO:=af (eU.out.trans' aO (fun x hx=>.inr (by simp at hx;omega)));clear gq eU;go_wp2_with fail
       obtain⟨⟨g0,g1,g2⟩,_⟩:=q3 hs3.out;exact bodyPost_ret (v:=.tuple #[.agg #[.slice none 0 0,.slice none 0 0,.slice none 0 0],.int .i64 4]) (by simp[results,Tryz.results401,go_sem,g0,g1,g2];try rfl) rfl (rH aK.out (by decide) aO.out)
     ·have aK:=af (show ok=false by
       have hr:=jm.out;rw[show decide (Rw.length<=32)=false by simp;omega]at hr;simpa using hr.symm)
      have i1:(N.length:Int)<=16:=by omega
      have i3:(32:Int)<Rw.length:=by omega
      clear jm vY vZ wm;generalize N.length=n1 at*;generalize T.length=n2 at*;generalize Rw.length=n3 at*;obtain⟨⟨r0,r1,r2⟩,y0,y1,y2,_⟩:=q3 gq.out;obtain⟨hs3,aO⟩:=jJ gq.out (.slice none 0 0) (.slice none 0 0) (.slice none 0 0);change Hid _ at hs3;replace aO:=af (eU.out.trans' aO (fun x hx=>.inr (by simp at hx;omega)));clear gq eU;go_wp2_with fail
      obtain⟨⟨g0,g1,g2⟩,_⟩:=q3 hs3.out;exact bodyPost_ret (v:=.tuple #[.agg #[.slice none 0 0,.slice none 0 0,.slice none 0 0],.int .i64 6]) (by simp[results,Tryz.results401,go_sem,g0,g1,g2];try rfl) rfl (rH aK.out (by decide) aO.out)
    ·have aK:=af (show ok=false by
      have hr:=jm.out;rw[show decide (N.length<=16)=false by simp;omega]at hr;simpa using hr.symm)
     have i1:(16:Int)<N.length:=by omega
     clear jm vY vZ wm;generalize N.length=n1 at*;generalize T.length=n2 at*;generalize Rw.length=n3 at*;obtain⟨⟨r0,r1,r2⟩,y0,y1,y2,_⟩:=q3 gq.out;obtain⟨hs3,aO⟩:=jJ gq.out (.slice none 0 0) (.slice none 0 0) (.slice none 0 0);change Hid _ at hs3;replace aO:=af (eU.out.trans' aO (fun x hx=>.inr (by simp at hx;omega)));clear gq eU;go_wp2_with fail
     obtain⟨⟨g0,g1,g2⟩,_⟩:=q3 hs3.out;exact bodyPost_ret (v:=.tuple #[.agg #[.slice none 0 0,.slice none 0 0,.slice none 0 0],.int .i64 6]) (by simp[results,Tryz.results401,go_sem,g0,g1,g2];try rfl) rfl (rH aK.out (by decide) aO.out)
theorem ZE:(Tryz.prog.info? 363).map (fun i=>(i.zero,i.size,i.bytes))=some (some (.agg #[.string ⟨#[]⟩,.int .u32 0,.bool false,.int .i64 0,.int .u64 0,.string ⟨#[]⟩,.slice none 0 0]),7,80):=by kernel_rfl
theorem QU:jG Tryz.prog 103 363 ME 7 80 where
 ut:=Tryz.underlying103
 info:=by obtain⟨i,h1,h2,h3,h4⟩:=info_parts ZE;exact⟨i,_,h1,h2,h3,h4,rfl⟩
 pos:=by omega
 len:=fun _=>rfl
 one x u hu:=by simp only[ME,List.mem_cons,List.not_mem_nil,or_false]at hu;rcases hu with rfl|rfl|rfl|rfl|rfl|rfl|rfl<;>rfl
theorem jB{ok:Bool}{w w':World}{ec:Int}(h:ok=false)(aD:ec≠0)(ho:ai [] w w'):kY ok w (.returned (.tuple #[.slice none 0 0,.int .i64 ec])) w':=by subst h;exact⟨⟨ec,aD,rfl⟩,ho⟩
theorem Iz{ok:Bool}{w w':World}{a:Option Addr}{n c:Nat}(h:ok=true)(ho:ai [] w w'):kY ok w (.returned (.tuple #[.slice a n c,.int .i64 0])) w':=by subst h;exact⟨⟨a,n,c,rfl⟩,ho⟩
def QV(g:List Int->Bool)(deep:Int):Prop:= ∀(v:Value) (B:List Int) (W:World),aG bL W v B->(∀b,v.ownBlock=some b->b<W.heap.size)->eZ v->pE B->B.length<=140737488351232->aS W->
 Calls Tryz.prog 391 #[v,.int .i64 deep] W (kY (g B) W)
theorem QV.str{g:List Int->Bool}{deep:Int}(h:QV g deep):ZC g deep:=by
 intro t W ht hK;obtain⟨w1,c,h1,h2,h3,h4,h5⟩:=oJ t W;refine⟨w1,c,h1,h4,(h _ _ w1 h2 (fun b hb=>?_) h3 (bU t) (by rw[dX];omega) (hK.own h4)).mono fun _ _ hp=>hp.start h4⟩;simp[Value.ownBlock]at hb;omega
theorem QW(deep:Int)(hd:8<deep)(g:List Int->Bool)(hg: ∀B,g B=false):QV g deep:=by
 intro v B W hR hb hc hB hl hK;rw[hg];obtain⟨a,c,rfl⟩:=hR.form;clear hR hb hc hB hl hK;go_enter Tryz.func391,Tryz.ntmps391
 go_wp2_with fail
 go_ret2
 exact jB rfl (by decide) (ai.refl _ _)
theorem QX(n:Nat)(deep:Int)(hd:0<=deep/\deep<=8)(IH:ZC (qK n) (deep+1)):QV (qK (n+1)) deep:=by
 intro v B W hR hb hc hB hl hK;obtain⟨hd0,hd8⟩:=hd;have cR:=fun key s w hs hK=>MF (qK n) deep key s w hs hK ⟨hd0,by omega⟩ IH
 obtain⟨ok,hok⟩: ∃ok,qK (n+1) B=ok:=⟨_,rfl⟩;rw[hok];unfold qK at hok;generalize zh (qK n)=rd at*;have cW:=af (vI W v B hR hb hc hB hl);have hB':=hB;obtain⟨a,c,rfl⟩:=hR.form;have cH:=af (fun v l w h hl=>Ir v l w h hl);have Lb:=af hK;have cRh:=af cR;clear hR hb hc hB hK cR IH;go_enter Tryz.func391,Tryz.ntmps391
 go_wp2_with fail
 refine cW.out.mono ?_;intro e w2 hp;cases hw:uH B with
 |none=>
  rw[hw]at hp hok;simp only at hok;obtain⟨⟨ec,aD,rfl⟩,hO2⟩:=hp;have aK:=af hok.symm;have q:(ec !=0)=true:=by simpa using aD
  change Hid _ at aD;replace hO2:=af hO2;clear hw hok;go_wp2_with fail
  go_ret2
  exact jB aK.out aD.out hO2.out
 |some l=>
  rw[hw]at hp hok;simp only at hok;obtain⟨⟨aY,rfl,hS⟩,hO2⟩:=hp;obtain⟨hll,hf⟩:=nS hB' hw;have cH2:=cH.out aY l w2 (hS.reads eT) hll;obtain⟨oa,oc,rfl⟩:=hS.sl;have hfV:=af (fun f hf'=>((vJ hf 2) f hf').t);have hVl:=rE l 2;have hKl:=rE l 1;replace hO2:=af hO2;replace cH2:=af cH2;clear hw hS hf cW;go_wp2_with fail
  refine cH2.out.mono ?_;intro e w3 hp;cases hh:vG l with
  |false=>
   rw[hh]at hp hok;simp only[Bool.false_and]at hok;obtain⟨⟨ec,aD,rfl⟩,hO3⟩:=hp;have aK:=af hok.symm;have q:(ec !=0)=true:=by simpa using aD
   change Hid _ at aD;replace hO3:=af (hO2.out.trans hO3);clear hh hok;go_wp2_with fail
   go_ret2
   exact jB aK.out aD.out hO3.out
  |true=>
   rw[hh]at hp hok;simp only[Bool.true_and]at hok;obtain⟨⟨kv,vv,rfl,hS1,hS2⟩,hO3⟩:=hp;have hlen:(bA l 1).length=(bA l 2).length:=by
    rw[xG]at hh;simp only[Bool.and_eq_true,decide_eq_true_eq]at hh;exact hh.2
   obtain⟨ka,kc,rfl⟩:=hS1.sl;obtain⟨va,vc,rfl⟩:=hS2.sl;have gU:=af (hS1.reads eT);have hR2:=af (hS2.reads eT);replace hO3:=af (hO2.out.trans hO3);change Hid _ at hok;have afu:=hfV;generalize bA l 1=K at*;generalize bA l 2=V at*;clear hh hS1 hS2 hfV cH2 cH hO2;go_wp2_with fail
   go_loopg[10,35] K.length (fun g s10 s35 wr=> ∃(k:Nat) (L:List QS),k<=K.length/\g=K.length-k/\s35=.int .i64 k/\Aside (ai [] w3 wr/\Sl 363 ME 7 w3.heap.size wr s10 L/\L.length=k/\(V.take k).all (fun f=>rd (ak f.text))=true))
   case atStart=>exact⟨0,[],by omega,by omega,rfl,ai.refl _ _,Sl.nil _ _ _,rfl,by simp⟩
   case round=>
    obtain⟨k,L,hk,rfl,rfl,hO,hS,Vb,hgood⟩:=hrel;have k0:(0:Int)<=k:=by omega
    obtain⟨sa,sc,rfl⟩:=hS.sl;by_cases hlt:k<K.length
    ·have k1:(k:Int)<K.length:=by omega
     have hwk:IntKind.i64.wrap ((k:Int)+1)=(k:Int)+1:=IntWalk.i64_in _ (by omega);have Yc:k<V.length:=by omega
     have k1V:(k:Int)<V.length:=by omega
     obtain⟨b1,o1,rfl,_,_,_,x3⟩:=(gU.out.nil' hO).fld hlt;obtain⟨b2,o2,rfl,_,_,_,y3⟩:=(hR2.out.nil' hO).fld Yc;have hsz:=afu.out V[k] (List.getElem_mem Yc);have hnext:rd (ak V[k].text)=true->(V.take (k+1)).all (fun f=>rd (ak f.text))=true:=fun hh=>by
      rw[List.take_succ_eq_append_getElem Yc,List.all_append,hgood];simp[hh]
     have hbad:rd (ak V[k].text)=false->V.all (fun f=>rd (ak f.text))=false:=fun hh=>by
      rw[List.all_eq_false];exact⟨V[k],List.getElem_mem Yc,by simp[hh]⟩
     generalize K[k].text=key at*;generalize V[k].text=t at*;have yA:=fun W' (ho:ai [] wr W')=>cRh.out key t W' hsz (Lb.out.own ((hO3.out.trans hO).trans ho))
     have hS0:Hid (∀W',ai [] wr W'->W'.cell? ⟨b1,o1+k*4+3,none⟩=some (.string key)/\W'.cell? ⟨b2,o2+k*4+3,none⟩=some (.string t)):=af fun W' ho=>
      ⟨(ho.cell (block_lt_of_cell x3) (by simp)).trans x3,(ho.cell (block_lt_of_cell y3) (by simp)).trans y3⟩
     have kW:=hS0.out wr.drew (ai.refl [] wr).drew;have hn1:wr.heap.size≠b1:=Nat.ne_of_gt (block_lt_of_cell x3);have hn2:wr.heap.size≠b2:=Nat.ne_of_gt (block_lt_of_cell y3);have Yd:=af (((ai.refl [] wr).alloc (.cells #[.string ⟨#[]⟩,.int .u32 0,.bool false,.int .i64 0,.int .u64 0,.string ⟨#[]⟩,.slice none 0 0] 363)).drew);have hbn:((wr.alloc (.cells #[.string ⟨#[]⟩,.int .u32 0,.bool false,.int .i64 0,.int .u64 0,.string ⟨#[]⟩,.slice none 0 0] 363)).drew).heap[wr.heap.size]?=_:=heap_alloc_new wr (.cells #[.string ⟨#[]⟩,.int .u32 0,.bool false,.int .i64 0,.int .u64 0,.string ⟨#[]⟩,.slice none 0 0] 363);have kB:=hS0.out _ Yd.out;have kB2:=hS0.out _ ((ai.refl [] wr).drew.alloc (.cells #[.string ⟨#[]⟩,.int .u32 0,.bool false,.int .i64 0,.int .u64 0,.string ⟨#[]⟩,.slice none 0 0] 363));change Hid _ at yA;cases hr:rd (ak t)with
     |false=>
      change Hid _ at Vb hlen;replace yA:=yA.out;rw[hr]at yA;have aK:ok=false:=by rw[<-hok.out];exact hbad hr
      change Hid _ at aK yA;replace hO:=af hO;clear hnext hbad hgood hr hS;go_wp2_with fail
      go_region_held3(fun W'=>W'.cell? ⟨b1,o1+k*4+3,none⟩=some (.string key)/\W'.cell? ⟨b2,o2+k*4+3,none⟩=some (.string t)) (first|with_reducible exact kA|with_reducible exact kW|with_reducible exact kB|go_keep)
       (first
        |(go_at_call 400;(with_reducible refine(yA.out wr.drew (ai.refl [] wr).drew).mono ?_);rintro e w5 ⟨⟨⟨p1,p2,p3,p4,p5,p6,p7,p8,p9⟩,ec,aD,rfl⟩,aF⟩;unfold ME;simp only;have gY:=(ai.refl [] wr).drew.trans aF;have kA:=hS0.out _ gY;have hor:Hid (True):=af trivial)
        |(go_at_call 400;(with_reducible refine(yA.out _ Yd.out).mono ?_);rintro e w5 ⟨⟨⟨p1,p2,p3,p4,p5,p6,p7,p8,p9⟩,ec,aD,rfl⟩,aF⟩;unfold ME;simp only;have gY:=Yd.out.trans aF;have kA:=hS0.out _ gY;have hbx:=aF.heap hbn (by simp);obtain⟨g0,g1,g2,g3,g4,g5,g6⟩:=c7 hbx;obtain⟨n0,n1,n2,n3,n4,n5,n6,_⟩:=z7 hbx))
      ·have bI:=af (hO3.out.trans (hO.out.trans (gY.alloc (.cells #[.string p1,.int .u32 p2,.bool p3,.int .i64 p4,.int .u64 p5,.string p6,.slice p7 p8 p9] 363))))
       have q:(ec !=0)=true:=by simpa using aD
       change Hid _ at aD;clear aF gY hor kA kW kB kB2 hbn Yd yA;generalize(w5.alloc (.cells #[.string p1,.int .u32 p2,.bool p3,.int .i64 p4,.int .u64 p5,.string p6,.slice p7 p8 p9] 363))=w6 at*;go_wp2_with fail
       go_ret2
       exact jB aK.out aD.out bI.out
      ·obtain⟨hrow,bI⟩:=s7 hbx (.string p1) (.int .u32 p2) (.bool p3) (.int .i64 p4) (.int .u64 p5) (.string p6) (.slice p7 p8 p9)
       replace bI:=af (hO3.out.trans (hO.out.trans (gY.trans' bI (fun y hy=>.inr (by simp at hy;omega)))));have q:(ec !=0)=true:=by simpa using aD
       change Hid _ at aD;clear hrow aF gY kA kW kB kB2 hbn Yd yA hbx g0 g1 g2 g3 g4 g5 g6 n0 n1 n2 n3 n4 n5 n6;generalize(((((((w5.setCell ⟨wr.heap.size,0,none⟩ (.string p1)).setCell ⟨wr.heap.size,1,none⟩ (.int .u32 p2)).setCell ⟨wr.heap.size,2,none⟩ (.bool p3)).setCell ⟨wr.heap.size,3,none⟩ (.int .i64 p4)).setCell ⟨wr.heap.size,4,none⟩ (.int .u64 p5)).setCell ⟨wr.heap.size,5,none⟩ (.string p6)).setCell ⟨wr.heap.size,6,none⟩ (.slice p7 p8 p9))=w6 at*;go_wp2_with fail
       go_ret2
       exact jB aK.out aD.out bI.out
     |true=>
      replace yA:=yA.out;rw[hr]at yA;have hg:=af (hnext hr);have hl1:=af (show(L.length+1)*80<=140737488355328 by omega);have hl2:=af (show L.length+1<=maxLen by unfold maxLen;omega);change Hid _ at Vb hlen yA;replace hO:=af hO;replace hS:=af hS;clear hnext hbad hgood hr;go_wp2_with fail
      go_region_held3(fun W'=>W'.cell? ⟨b1,o1+k*4+3,none⟩=some (.string key)/\W'.cell? ⟨b2,o2+k*4+3,none⟩=some (.string t)) (first|with_reducible exact kA|with_reducible exact kW|with_reducible exact kB|go_keep)
       (first
        |(go_at_call 400;(with_reducible refine(yA.out wr.drew (ai.refl [] wr).drew).mono ?_);rintro e w5 ⟨⟨⟨p1,p2,p3,p4,p5,p6,p7,p8,p9⟩,rfl⟩,aF⟩;unfold ME;simp only;have gY:=(ai.refl [] wr).drew.trans aF;have kA:=hS0.out _ gY;have hor:Hid (True):=af trivial)
        |(go_at_call 400;(with_reducible refine(yA.out _ Yd.out).mono ?_);rintro e w5 ⟨⟨⟨p1,p2,p3,p4,p5,p6,p7,p8,p9⟩,rfl⟩,aF⟩;unfold ME;simp only;have gY:=Yd.out.trans aF;have kA:=hS0.out _ gY;have hbx:=aF.heap hbn (by simp);obtain⟨g0,g1,g2,g3,g4,g5,g6⟩:=c7 hbx;obtain⟨n0,n1,n2,n3,n4,n5,n6,_⟩:=z7 hbx))
      ·have hrow:=heap_alloc_new w5 (.cells #[.string p1,.int .u32 p2,.bool p3,.int .i64 p4,.int .u64 p5,.string p6,.slice p7 p8 p9] 363)
       have bI:=gY.alloc (.cells #[.string p1,.int .u32 p2,.bool p3,.int .i64 p4,.int .u64 p5,.string p6,.slice p7 p8 p9] 363);clear aF gY hor kA kW kB kB2 hbn Yd yA;generalize(w5.alloc (.cells #[.string p1,.int .u32 p2,.bool p3,.int .i64 p4,.int .u64 p5,.string p6,.slice p7 p8 p9] 363))=w6 at*;generalize w5.heap.size=pb at*;obtain⟨i0,i1,i2,i3,i4,i5,i6⟩:=c7 hrow;have eU:=hO.out.trans bI;have gV:=af (eU.alloc (.cells #[.string p1,.int .u32 p2,.bool p3,.int .i64 p4,.int .u64 p5,.string p6,.slice p7 p8 p9] 363));have OH:=af (hS.out.nil' (bI.alloc (.cells #[.string p1,.int .u32 p2,.bool p3,.int .i64 p4,.int .u64 p5,.string p6,.slice p7 p8 p9] 363)));have hRb:=af (aG.new (enc:=ME) (T:=363) w6 ⟨p1,p2,p3,p4,p5,p6,p7,p8,p9⟩ 1);clear hrow bI eU;go_wp2_with(at_builtin;refine aT rfl (.tmp 56) (.tmp 58) rfl QU gV.out rfl OH.out rfl hRb.out (by have hq:=hl1.out;simp only[List.length_singleton];exact hq) (by have hq:=hl2.out;simp only[List.length_singleton];exact hq) ?_;intro va9 w9 yB mU _ hg2 hg3;obtain⟨aa,ca,rfl⟩:=yB.sl;replace mU:=af mU;replace yB:=af yB;clear hg2 hg3)
       go_roundg(K.length-(k+1))
       case measure=>omega
       case rel=>exact⟨k+1,L++[⟨p1,p2,p3,p4,p5,p6,p7,p8,p9⟩],by omega,rfl,by simp,mU.out,by have hh:=yB.out;rw[List.length_append]at hh;exact hh,by rw[List.length_append,Vb.out];rfl,hg.out⟩
      ·obtain⟨hrow,bI⟩:=s7 hbx (.string p1) (.int .u32 p2) (.bool p3) (.int .i64 p4) (.int .u64 p5) (.string p6) (.slice p7 p8 p9)
       replace bI:=gY.trans' bI (fun y hy=>.inr (by simp at hy;omega));clear aF gY kA kW kB kB2 hbn Yd yA hbx g0 g1 g2 g3 g4 g5 g6 n0 n1 n2 n3 n4 n5 n6;generalize(((((((w5.setCell ⟨wr.heap.size,0,none⟩ (.string p1)).setCell ⟨wr.heap.size,1,none⟩ (.int .u32 p2)).setCell ⟨wr.heap.size,2,none⟩ (.bool p3)).setCell ⟨wr.heap.size,3,none⟩ (.int .i64 p4)).setCell ⟨wr.heap.size,4,none⟩ (.int .u64 p5)).setCell ⟨wr.heap.size,5,none⟩ (.string p6)).setCell ⟨wr.heap.size,6,none⟩ (.slice p7 p8 p9))=w6 at*;generalize wr.heap.size=pb at*;obtain⟨i0,i1,i2,i3,i4,i5,i6⟩:=c7 hrow;have eU:=hO.out.trans bI;have gV:=af (eU.alloc (.cells #[.string p1,.int .u32 p2,.bool p3,.int .i64 p4,.int .u64 p5,.string p6,.slice p7 p8 p9] 363));have OH:=af (hS.out.nil' (bI.alloc (.cells #[.string p1,.int .u32 p2,.bool p3,.int .i64 p4,.int .u64 p5,.string p6,.slice p7 p8 p9] 363)));have hRb:=af (aG.new (enc:=ME) (T:=363) w6 ⟨p1,p2,p3,p4,p5,p6,p7,p8,p9⟩ 1);clear hrow bI eU;go_wp2_with(at_builtin;refine aT rfl (.tmp 56) (.tmp 58) rfl QU gV.out rfl OH.out rfl hRb.out (by have hq:=hl1.out;simp only[List.length_singleton];exact hq) (by have hq:=hl2.out;simp only[List.length_singleton];exact hq) ?_;intro va9 w9 yB mU _ hg2 hg3;obtain⟨aa,ca,rfl⟩:=yB.sl;replace mU:=af mU;replace yB:=af yB;clear hg2 hg3)
       go_roundg(K.length-(k+1))
       case measure=>omega
       case rel=>exact⟨k+1,L++[⟨p1,p2,p3,p4,p5,p6,p7,p8,p9⟩],by omega,rfl,by simp,mU.out,by have hh:=yB.out;rw[List.length_append]at hh;exact hh,by rw[List.length_append,Vb.out];rfl,hg.out⟩
    ·have k1: ¬(k:Int)<K.length:=by omega
     rw[List.take_of_length_le (by omega)]at hgood;have jF:ok=true:=by rw[<-hok.out];exact hgood
     change Hid _ at jF;replace hO:=af (hO3.out.trans hO);clear hgood hS hok gU hR2;go_wp2_with fail
     go_ret2
     exact Iz jF.out hO.out
theorem KI: ∀(n:Nat) (deep:Int),deep+n=9->0<=deep->QV (qK n) deep
 |0,deep,h,_=>QW deep (by omega) _ (fun _=>rfl)
 |n+1,deep,h,h0=>QX n deep ⟨h0,by omega⟩ (KI n (deep+1) (by omega) (by omega)).str
theorem KJ(t:ByteArray)(W:World)(ht:t.size<=4096)(hK:aS W): ∃w1 c,(convert 9 23 (.string t)).run Tryz.prog W=.ok (.slice (some ⟨W.heap.size,0,none⟩) t.size c) w1/\ai [] W w1/\
  Calls Tryz.prog 383 #[.slice (some ⟨W.heap.size,0,none⟩) t.size c] w1 (kY (qK 8 (ak t)) W):=by
 obtain⟨w1,c,h1,h2,h3⟩:=(KI 8 1 (by decide) (by decide)).str t W ht hK;refine⟨w1,c,h1,h2,?_⟩;replace h3:=af h3;generalize qK 8 (ak t)=ok at*;go_enter Tryz.func383,Tryz.ntmps383
 go_wp2_with fail
 refine h3.out.mono ?_;intro e w2 hp;cases ok with
 |false=>
  obtain⟨⟨ec,aD,rfl⟩,hO⟩:=hp;change Hid _ at aD hO;go_wp2_with fail
  go_ret2
  exact jB rfl aD.out hO.out
 |true=>
  obtain⟨⟨a,n,c,rfl⟩,hO⟩:=hp;change Hid _ at hO;go_wp2_with fail
  go_ret2
  exact Iz rfl hO.out
theorem VY(f:bN)(w:World):Calls Tryz.prog 417 #[.agg (fL f).toArray] w fun e w'=>e=.returned (.bool (f.kind !=2))/\ai [] w w':=by
 have hA:=(ai.refl [] w).alloc (.cells (fL f).toArray 100);obtain⟨n,k,v,t⟩:=f;unfold fL at*;go_enter Tryz.func417,Tryz.ntmps417
 go_wp2_with fail
 go_ret
 exact⟨rfl,hA⟩
theorem MC(v:Value)(l:List bN)(w:World)(h:aG fL w v l)(hl:l.length<=256):
  Calls Tryz.prog 419 #[v,.func (.func 417) #[] #[]] w fun e w'=> ∃n:Int,e=.returned (.int .i64 n)/\decide (0<=n)= !(l.all fun x=>x.kind==2)/\ai [] w w':=by
 obtain⟨sa,sc,rfl⟩:=h.form;obtain⟨R,hR⟩: ∃R,(l.all fun x=>x.kind==2)=R:=⟨_,rfl⟩;rw[hR];change Hid _ at hR;go_enter Tryz.func419,Tryz.ntmps419
 go_wp2_with fail
 go_loopg[8] l.length (fun g s8 wr=> ∃k:Nat,k<=l.length/\g=l.length-k/\s8=.int .i64 k/\Aside (ai [] w wr/\(l.take k).all (fun x=>x.kind==2)=true))
 case atStart=>exact⟨0,by omega,by omega,rfl,ai.refl _ _,by simp⟩
 case round=>
  obtain⟨k,hk,rfl,rfl,hO,hgood⟩:=hrel;have k0:(0:Int)<=k:=by omega
  by_cases hlt:k<l.length
  ·have k1:(k:Int)<l.length:=by omega
   have hwk:IntKind.i64.wrap ((k:Int)+1)=(k:Int)+1:=IntWalk.i64_in _ (by omega);obtain⟨b,o,rfl,c0,c1,c2,c3⟩:=(h.nil' hO).fld hlt;have hnext:(l[k].kind==2)=true->(l.take (k+1)).all (fun x=>x.kind==2)=true:=fun hh=>by
    rw[List.take_succ_eq_append_getElem hlt,List.all_append,hgood];simpa using hh
   have hbad:(l[k].kind==2)=false->R=false:=fun hh=>by
    rw[<-hR.out,List.all_eq_false];exact⟨l[k],List.getElem_mem hlt,by simp[hh]⟩
   generalize l[k]=f at*;have cD:=VY f wr;obtain⟨f1,f2,f3,f4⟩:=f;unfold fL at cD;simp only at*;replace hO:=af hO;cases q:f2==2
   ·have hb:=af (hbad q)
    rw[show(f2 !=2)=true by simp[bne,q]]at cD;replace cD:=af cD;clear hnext hbad hgood h q;go_wp2_with fail
    refine cD.out.mono ?_;rintro e w5 ⟨rfl,aF⟩;replace aF:=af (hO.out.trans aF);go_wp2_with fail
    go_ret
    exact⟨(k:Int),rfl,by rw[hb.out];simp,aF.out⟩
   ·have hg:=af (hnext q)
    rw[show(f2 !=2)=false by simp[bne,q]]at cD;replace cD:=af cD;clear hnext hbad hgood h q;go_wp2_with fail
    refine cD.out.mono ?_;rintro e w5 ⟨rfl,aF⟩;replace aF:=af (hO.out.trans aF);go_wp2_with fail
    go_roundg(l.length-(k+1))
    case measure=>omega
    case rel=>exact⟨k+1,by omega,rfl,by simp,aF.out,hg.out⟩
  ·have k1: ¬(k:Int)<l.length:=by omega
   rw[List.take_of_length_le (by omega)]at hgood;have Gg:R=true:=by rw[<-hR.out];exact hgood
   change Hid _ at Gg;replace hO:=af hO;clear hgood h;go_wp2_with fail
   go_ret
   exact⟨-1,rfl,by rw[Gg.out];rfl,hO.out⟩
theorem Iy(v:Value)(l:List bN)(w:World)(h:aG fL w v l)(hl:l.length<=256):
  Calls Tryz.prog 416 #[v,.func (.func 417) #[] #[]] w fun e w'=>e=.returned (.bool (!(l.all fun x=>x.kind==2)))/\ai [] w w':=by
 obtain⟨sa,sc,rfl⟩:=h.form;have cI:=af (MC _ l w h hl);clear h;generalize(!(l.all fun x=>x.kind==2))=R at*;go_enter Tryz.func416,Tryz.ntmps416
 go_wp2_with fail
 refine cI.out.mono ?_;rintro e w2 ⟨n,rfl,hn,hO⟩;change Hid _ at hO hn;go_wp2_with fail
 go_ret
 exact⟨by rw[<-hn.out];rfl,hO.out⟩
def pW(mM:Nat)(B:List Int):Bool:=match uH B with
 |none=>false
 |some l=>decide ((bA l 1).length=mM)&&(bA l 1).all (fun x=>x.kind==2)&&(bA l 1).all rD
def qG(w:World)(g N:Nat)(T:TypeId):Prop:= ∃cur:Array Value,w.heap[g]?=some (.cells cur T (0,0))/\cur.size=N
theorem qG.own{S:List Nat}{w w':World}{g N:Nat}{T:TypeId}(h:qG w g N T)(ho:ai S w w')(hg:g∉S):qG w' g N T:=by
 obtain⟨cur,h1,h2⟩:=h;exact⟨cur,ho.heap h1 hg,h2⟩
theorem qG.lt{w:World}{g N:Nat}{T:TypeId}(h:qG w g N T):g<w.heap.size:=by
 obtain⟨cur,h1,_⟩:=h;exact aj h1
theorem qG.cell{w:World}{g N:Nat}{T:TypeId}(h:qG w g N T){j:Nat}(hj:j<N): ∃u,w.cell? ⟨g,j,none⟩=some u/\w.frozen? ⟨g,j,none⟩=false:=by
 obtain⟨cur,h1,h2⟩:=h;exact⟨cur[j],by rw[cell_of_row _ _ _ _ _ _ h1];exact Array.getElem?_eq_getElem (by omega),frozen_of_row _ _ _ _ _ h1⟩
theorem qG.set{w:World}{g N:Nat}{T:TypeId}(h:qG w g N T)(j:Nat)(u:Value):qG (w.setCell ⟨g,j,none⟩ u) g N T:=by
 obtain⟨cur,h1,h2⟩:=h;exact⟨_,heap_setCell_same w g j _ _ u h1,by simpa using h2⟩
theorem VZ:(Tryz.prog.info? 105).map (fun i=>(i.zero,i.size,i.bytes))=some (some (.agg #[.int .i64 0,.int .u64 0,.string ⟨#[]⟩]),3,32):=by kernel_rfl
theorem IB{b c:World}(hg:b.grownBy c none):ai [] b c:=
 ⟨hg.os,hg.tape,hg.output,hg.size,fun i hi _=>hg.block i hi (by simp)⟩
theorem IC(s:ByteArray)(mM:Nat)(w:World)(hs:s.size<=4096)(hc16:mM<=16)(hK:aS w):
  Calls Tryz.prog 402 #[.string s,.int .i64 mM] w (kY (pW mM (ak s)) w):=by
 obtain⟨ok,hok⟩: ∃ok,pW mM (ak s)=ok:=⟨_,rfl⟩;rw[hok];unfold pW at hok;obtain⟨w1,c,hcv,aL,cW⟩:=sK s w (by omega);replace cW:=af cW;have Lb:=af hK;clear hK aL;go_enter Tryz.func402,Tryz.ntmps402
 go_wp2_with fail
 refine cW.out.mono ?_;intro e w2 hp;clear cW hcv;cases hw:uH (ak s)with
 |none=>
  rw[hw]at hp hok;simp only at hok;obtain⟨⟨ec,aD,rfl⟩,hO2⟩:=hp;have aK:=af hok.symm;have q:(ec !=0)=true:=by simpa using aD
  change Hid _ at aD;replace hO2:=af hO2;clear hw hok;go_wp2_with fail
  go_ret2
  exact jB aK.out aD.out hO2.out
 |some l=>
  rw[hw]at hp hok;simp only at hok;obtain⟨⟨aY,rfl,hS⟩,hO2⟩:=hp;obtain⟨hll,hf⟩:=nS (bU s) hw;have cA:=af (rF aY l 1 w2 (hS.reads eT) hll);obtain⟨oa,oc,rfl⟩:=hS.sl;have hfC:=af (fun f hf'=>((vJ hf 1) f hf').t);have hCl:=rE l 1;replace hO2:=af hO2;clear hw hS hf;go_wp2_with fail
  refine cA.out.mono ?_;rintro e w3 ⟨cv,rfl,uh,hO3⟩;generalize bA l 1=C at*;have cC:=af (Iy cv C w3 (uh.reads eT) (by omega));have hRC:=af (uh.reads eT);obtain⟨ca,cc,rfl⟩:=uh.sl;replace hO3:=af (hO2.out.trans hO3);clear uh cA hO2;by_cases hlen:C.length=mM
  ·have q:((C.length:Int)!=(mM:Int))=false:=by simp[hlen]
   rw[show decide (C.length=mM)=true by simpa using hlen,Bool.true_and]at hok;change Hid _ at hlen;obtain⟨al,hal⟩: ∃al,(C.all fun x=>x.kind==2)=al:=⟨_,rfl⟩;rw[hal]at cC hok;cases al with
   |false=>
    have aK:ok=false:=by simpa using hok.symm
    change Hid _ at aK;clear hal hok;go_wp2_with(go_at_call 416;(with_reducible refine cC.out.mono ?_);rintro e w4 ⟨rfl,hO4⟩;replace hO4:=af (hO3.out.trans hO4))
    go_ret2
    exact jB aK.out (by decide) hO4.out
   |true=>
    have hok2:C.all rD=ok:=by simpa using hok
    change Hid _ at hok2;clear hal hok;go_wp2_with(go_at_call 416;(with_reducible refine cC.out.mono ?_);rintro e w4 ⟨rfl,hO4⟩;replace hO4:=af hO4;obtain⟨inf,i1,i2,i3,i4⟩:=info_parts VZ;obtain⟨w6,hmk,hw6,hg6⟩:=run_make_full (P:=Tryz.prog) w4 w4.heap.size 303 105 inf _ 3 Tryz.underlying303 i1 i2 i3 .i64 .i64 mM (by rw[i4];omega) (by unfold maxLen;omega) (Nat.le_refl _))
    have hB6:qG w6 w4.heap.size (mM*3) 105:=by
     obtain⟨h1,h2|⟨g,cap,cur,he,hb,hg,h3,h4,h5,h6⟩⟩:=hw6
     ·cases h2.1
     ·cases he
      exact⟨cur,hg,h5⟩
    have aaA:ai [] w4 w6:=IB hg6;have bI:=af (hO3.out.trans (hO4.out.trans aaA));have hR6:=af ((hRC.out.nil' hO4.out).nil' aaA);have hwg:w.heap.size<=w4.heap.size:=(hO3.out.trans hO4.out).size;have hRl: ∀b,(Value.slice ca C.length cc).ownBlock=some b->b<w4.heap.size\/C.length=0:=fun b hb=>by
     rcases hRC.out.nil' hO4.out with⟨h1,h2⟩|⟨b',o',c',h1,h2⟩
     ·exact .inr (by rw[h2];rfl)
     ·cases h1
      by_cases h0:C.length=0
      ·exact .inr h0
      ·refine .inl ?_
       have hq:(aI fL C)[0]?=some ((aI fL C)[0]'(by rw[bq eT];omega)):=List.getElem?_eq_getElem _;have:=block_lt_of_cell (h2 0 _ hq);simp[Value.ownBlock]at hb;subst hb;exact this
    change Hid _ at hRl hB6;clear hmk hw6 hg6 aaA hO4 hRC cC i1 i2 i3 i4;generalize w4.heap.size=gb at*;go_loopg[34] mM (fun g s34 wr=> ∃k:Nat,k<=mM/\g=mM-k/\s34=.int .i64 k/\Aside (ai [gb] w6 wr/\qG wr gb (mM*3) 105/\ai [] w wr/\(C.take k).all rD=true))
    case atStart=>exact⟨0,by omega,by omega,rfl,ai.refl _ _,hB6.out,bI.out,by simp⟩
    case round=>
     obtain⟨k,hk,rfl,rfl,hOg,OI,dK,hgood⟩:=hrel;have k0:(0:Int)<=k:=by omega
     by_cases hlt:k<mM
     ·have k1:(k:Int)<mM:=by omega
      have hwk:IntKind.i64.wrap ((k:Int)+1)=(k:Int)+1:=IntWalk.i64_in _ (by omega);have Ye:k<C.length:=by rw[hlen.out];exact hlt
      have k1C:(k:Int)<C.length:=by omega
      have hRk:=hR6.out.own hOg (fun b hb=>by have:=hRl.out b hb;simp;omega);obtain⟨b,o,rfl,_,_,_,x3⟩:=hRk.fld Ye;have hnext:rD C[k]=true->(C.take (k+1)).all rD=true:=fun hh=>by
       rw[List.take_succ_eq_append_getElem Ye,List.all_append,hgood];simp[hh]
      have hbad:rD C[k]=false->ok=false:=fun hh=>by
       rw[<-hok2.out,List.all_eq_false];exact⟨C[k],List.getElem_mem Ye,by simp[hh]⟩
      have hsz:=hfC.out C[k] (List.getElem_mem Ye);unfold rD at hnext hbad;generalize C[k].text=t at*;obtain⟨w7,c7',hcv,eU,cW⟩:=sK t wr (by omega);replace cW:=af cW;clear hRk hB6;go_wp2_with fail
      refine cW.out.mono ?_;intro e w8 hp;clear cW hcv;cases hwo:uH (ak t)with
      |none=>
       rw[hwo]at hp hbad hnext;obtain⟨⟨ec,aD,rfl⟩,gV⟩:=hp;have aK:=af (hbad rfl);have q:(ec !=0)=true:=by simpa using aD
       change Hid _ at aD;replace gV:=af (dK.trans gV);clear hnext hbad hgood hwo hOg OI dK;go_wp2_with fail
       go_ret2
       exact jB aK.out aD.out gV.out
      |some fl=>
       rw[hwo]at hp hbad hnext;simp only at hbad hnext;obtain⟨⟨fv,rfl,Lc⟩,gV⟩:=hp;obtain⟨hfl,hff⟩:=nS (bU t) hwo;have cV:=yg fv fl 1 false w8 (Lc.reads eT) hfl hff (by omega) (Lb.out.own (dK.trans gV));obtain⟨fa,fc,rfl⟩:=Lc.sl;have hB8:=OI.own gV (by simp);have aaC:=hOg.trans gV.nil;have Yf:=dK.trans gV;unfold vK at cV;cases hv:O5 1 false fl with
       |none=>
        rw[hv]at cV hbad;have aK:=af (hbad rfl);replace cV:=af cV;clear hnext hbad hgood hwo hOg OI dK Lc hff hv gV;go_wp2_with fail
        refine cV.out.mono ?_;rintro e w9 ⟨⟨⟨y1,y2,y3⟩,ec,aD,rfl⟩,mU⟩;unfold PV.val;simp only;have Ve:=hB8.own mU (by simp);obtain⟨u0,c0,z0⟩:=Ve.cell (j:=k*3) (by omega);obtain⟨u1,c1,z1⟩:=Ve.cell (j:=k*3+1) (by omega);obtain⟨u2,c2,z2⟩:=Ve.cell (j:=k*3+2) (by omega);have q:(ec !=0)=true:=by simpa using aD
        have qJ:=af ((((Yf.trans mU).setCell (p:=⟨gb,k*3,none⟩) (.inr hwg) (.int .i64 y1)).setCell (p:=⟨gb,k*3+1,none⟩) (.inr hwg) (.int .u64 y2)).setCell (p:=⟨gb,k*3+2,none⟩) (.inr hwg) (.string y3));change Hid _ at aD;clear Ve hB8 mU Yf aaC;go_wp2_with fail
        go_ret2
        exact jB aK.out aD.out qJ.out
       |some y=>
        rw[hv]at cV hnext;have hg:=af (hnext rfl);replace cV:=af cV;clear hnext hbad hgood hwo hOg OI dK Lc hff hv gV;go_wp2_with fail
        refine cV.out.mono ?_;rintro e w9 ⟨rfl,mU⟩;obtain⟨y1,y2,y3⟩:=y;unfold PV.val;simp only;have Ve:=hB8.own mU (by simp);obtain⟨u0,c0,z0⟩:=Ve.cell (j:=k*3) (by omega);obtain⟨u1,c1,z1⟩:=Ve.cell (j:=k*3+1) (by omega);obtain⟨u2,c2,z2⟩:=Ve.cell (j:=k*3+2) (by omega);have qJ:=af ((((Yf.trans mU).setCell (p:=⟨gb,k*3,none⟩) (.inr hwg) (.int .i64 y1)).setCell (p:=⟨gb,k*3+1,none⟩) (.inr hwg) (.int .u64 y2)).setCell (p:=⟨gb,k*3+2,none⟩) (.inr hwg) (.string y3));have afw:=af ((((aaC.trans mU.nil).setCell (p:=⟨gb,k*3,none⟩) (.inl (by simp)) (.int .i64 y1)).setCell (p:=⟨gb,k*3+1,none⟩) (.inl (by simp)) (.int .u64 y2)).setCell (p:=⟨gb,k*3+2,none⟩) (.inl (by simp)) (.string y3));have hBf:=af (((Ve.set (k*3) (.int .i64 y1)).set (k*3+1) (.int .u64 y2)).set (k*3+2) (.string y3));clear Ve hB8 mU Yf aaC;go_wp2_with fail
        go_roundg(mM-(k+1))
        case measure=>omega
        case rel=>exact⟨k+1,by omega,rfl,by simp,afw.out,hBf.out,qJ.out,hg.out⟩
     ·have k1: ¬(k:Int)<mM:=by omega
      rw[List.take_of_length_le (by rw[hlen.out];omega)]at hgood;have jF:ok=true:=by rw[<-hok2.out];exact hgood
      change Hid _ at jF dK;clear hgood hOg OI hB6;go_wp2_with fail
      go_ret2
      exact Iz jF.out dK.out
  ·have aK:ok=false:=by
    rw[show decide (C.length=mM)=false by simpa using hlen]at hok;simpa using hok.symm
   have q:((C.length:Int)!=(mM:Int))=true:=by simp;omega
   change Hid _ at aK;clear hok hlen cC;go_wp2_with fail
   go_ret2
   exact jB aK.out (by decide) hO3.out
end Go.Proofs.YtedcakchekaemaaGreatDoor
