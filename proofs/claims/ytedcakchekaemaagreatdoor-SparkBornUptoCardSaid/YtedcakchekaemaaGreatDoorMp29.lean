/- Contracts of the program, part 29. -/
import Derived.Test.YtedcakchekaemaaGreatDoorMp25
import Derived.Shelf.SlSortCmp.WholeK
set_option maxRecDepth 100000
set_option maxHeartbeats 16000000
set_option linter.all false
namespace Go.Proofs.YtedcakchekaemaaGreatDoor
open Go.RowKit
variable [Kd]
theorem Jo(g:List Int->Bool)(w:World)(b:Nat)(x:MT)(s1 s2 s3 s4:Sh)(deep:Int)(h:xU w b x s1 s2 s3 s4)(ht:x.told=true)(hm:x.mta'.size<=4096)(hp:x.props.size<=4096)(hs:x.big.size<=4096)(hK:aS w)(hd:0<=deep/\deep<=100)(hbk:5≠b)(IH:FD g (deep+1)):
  Calls Tryz.prog 380 #[.pointer (some ⟨b,0,none⟩),.int .i64 deep] w (zM (Cm (ak x.mta')&&(qK 8 (ak x.props)&&Ao g x)) w b x):=by
 obtain⟨c16,_⟩:=h.cell 16 (u:=.bool x.told) rfl;obtain⟨KH,_⟩:=h.cell 15 (u:=.string x.mta') rfl;rw[ht]at c16;obtain⟨w1,c,hcv,aL,cM⟩:=RX x.mta' w hm;have cV:=fun W t1 t2 (hW:xU W b x t1 t2 s3 s4) (hKW:aS W)=>FH g W b x t1 t2 s3 s4 deep hW hs hKW hd IH
 have hKo:=fun W' (ho:ai [b] w W')=>hK.own' ho (by simpa using hbk)
 have X3:(if x.m.v.k=8 then Ak (ak x.big)else if x.m.v.k=9 then g (ak x.big)else true)=Ao g x:=rfl;rw[X3]at cV;generalize Ao g x=vo at*;obtain⟨mo,hmo⟩: ∃mo,Cm (ak x.mta')=mo:=⟨_,rfl⟩;rw[hmo]at cM⊢;change Hid _ at cV hKo;replace cM:=af cM;replace h:=af h;clear aL ht IH hd X3 hK hmo;go_enter Tryz.func380,Tryz.ntmps380
 go_wp2_with fail
 refine cM.out.mono ?_;intro e w2 hpm;clear hcv cM;cases mo with
 |false=>
  obtain⟨⟨⟨m0,m1,m2,m3,m4,m5,m6,m7⟩,ec,aD,rfl⟩,hO⟩:=hpm;unfold meL;simp only;have qJ:=af ((hO.alloc (.cells #[.bool m0,.string m1,.int .u64 m2,.int .u64 m3,.string m4,.string m5,.string m6,.string m7] 236)).nil (S:=[b]));have q:(ec !=0)=true:=by simpa using aD
  change Hid _ at aD;clear hO h cV;go_wp2_with fail
  go_ret
  exact⟨⟨ec,aD.out,rfl⟩,qJ.out⟩
 |true=>
  obtain⟨⟨⟨m0,m1,m2,m3,m4,m5,m6,m7⟩,rfl⟩,iE⟩:=hpm;unfold meL;simp only;have h2m:=h.out.own iE (by simp);have UJ:=aj h2m;have hB:=(ai.refl [] w2).alloc (.cells #[.bool m0,.string m1,.int .u64 m2,.int .u64 m3,.string m4,.string m5,.string m6,.string m7] 236);obtain⟨d0,d1,d2,d3,d4,d5,d6,d7⟩:=c8 (heap_alloc_new w2 (.cells #[.bool m0,.string m1,.int .u64 m2,.int .u64 m3,.string m4,.string m5,.string m6,.string m7] 236));obtain⟨e8,z8'⟩:=h2m.cell 8 (u:=.slice s1.a s1.n s1.c) rfl;obtain⟨f8,y8'⟩:=(h2m.own hB (by simp)).cell 8 (u:=.slice s1.a s1.n s1.c) rfl;obtain⟨hEm,adr⟩:=h2m.set (t1:=⟨some ⟨w2.heap.size+1,0,none⟩,1,1⟩) (t2:=s2) (t3:=s3) (t4:=s4) 8 (.slice (some ⟨w2.heap.size+1,0,none⟩) 1 1) rfl;have iZ:=(hEm.own ((ai.refl [] _).alloc (.cells #[.bool m0,.string m1,.int .u64 m2,.int .u64 m3,.string m4,.string m5,.string m6,.string m7] 236)) (by simp)).own ((ai.refl [] _).alloc (.cells #[.bool m0,.string m1,.int .u64 m2,.int .u64 m3,.string m4,.string m5,.string m6,.string m7] 236)) (by simp);have aF:=((((iE.nil (S:=[b])).trans adr).alloc (.cells #[.bool m0,.string m1,.int .u64 m2,.int .u64 m3,.string m4,.string m5,.string m6,.string m7] 236)).alloc (.cells #[.bool m0,.string m1,.int .u64 m2,.int .u64 m3,.string m4,.string m5,.string m6,.string m7] 236));clear hB hEm adr h2m h iE;go_upto_region 7 with(fail)
  generalize(((w2.setCell ⟨b,8,none⟩ (.slice (some ⟨w2.heap.size+1,0,none⟩) 1 1)).alloc (.cells #[.bool m0,.string m1,.int .u64 m2,.int .u64 m3,.string m4,.string m5,.string m6,.string m7] 236)).alloc (.cells #[.bool m0,.string m1,.int .u64 m2,.int .u64 m3,.string m4,.string m5,.string m6,.string m7] 236))=w5 at*;generalize(⟨some ⟨w2.heap.size+1,0,none⟩,1,1⟩:Sh)=sm at*;obtain⟨c17,_⟩:=iZ.cell 17 (u:=.string x.props) rfl;obtain⟨w8,c3,hcv,hO3,cP⟩:=KJ x.props w5 hp (hKo.out _ aF);replace cP:=af cP;generalize qK 8 (ak x.props)=po at*;replace iZ:=af iZ;replace aF:=af aF;clear hO3 d0 d1 d2 d3 d4 d5 d6 d7 e8 z8' f8 y8' UJ;go_wp2_with fail
  refine cP.out.mono ?_;intro e w6 hp6;clear hcv cP;cases po with
  |false=>
   obtain⟨⟨ec,aD,rfl⟩,hO⟩:=hp6;have h2:=iZ.out.own hO (by simp);obtain⟨e9,z9⟩:=h2.cell 9 (u:=.slice s2.a s2.n s2.c) rfl;have qJ:=af ((aF.out.trans (hO.nil (S:=[b]))).setCell (p:=⟨b,9,none⟩) (.inl (by simp)) (.slice none 0 0));have q:(ec !=0)=true:=by simpa using aD
   change Hid _ at aD;clear h2 hO iZ cV;go_wp2_with fail
   go_ret
   exact⟨⟨ec,aD.out,rfl⟩,qJ.out⟩
  |true=>
   obtain⟨⟨a2,n2,k2,rfl⟩,hO⟩:=hp6;have h2:=iZ.out.own hO (by simp);obtain⟨e9,z9⟩:=h2.cell 9 (u:=.slice s2.a s2.n s2.c) rfl;obtain⟨hE,jo⟩:=h2.set (t1:=sm) (t2:=⟨a2,n2,k2⟩) (t3:=s3) (t4:=s4) 9 (.slice a2 n2 k2) rfl;have hK2:aS (w6.setCell ⟨b,9,none⟩ (.slice a2 n2 k2)):=hKo.out _ ((aF.out.trans (hO.nil (S:=[b]))).trans jo);have cV2:=af (cV.out _ sm ⟨a2,n2,k2⟩ hE hK2);have qJ:=af ((aF.out.trans (hO.nil (S:=[b]))).trans jo);clear h2 hO iZ cV hE jo hK2;go_wp2_with fail
   refine cV2.out.mono ?_;intro e w7 hp3;cases vo with
   |true=>
    obtain⟨rfl,hx,hO3⟩:=hp3;change Hid _ at hx;replace hO3:=af (qJ.out.trans hO3);go_wp2_with fail
    go_ret
    obtain⟨t3,t4,hx⟩:=hx.out;exact⟨rfl,⟨_,_,_,_,hx⟩,hO3.out⟩
   |false=>
    obtain⟨⟨ec,aD,rfl⟩,hO3⟩:=hp3;change Hid _ at aD;replace hO3:=af (qJ.out.trans hO3);go_wp2_with fail
    go_ret
    exact⟨⟨ec,aD.out,rfl⟩,hO3.out⟩
theorem Nw(g:List Int->Bool)(w:World)(b:Nat)(x:MT)(s1 s2 s3 s4:Sh)(deep:Int)(h:xU w b x s1 s2 s3 s4)(hm:x.mta'.size<=4096)(hp:x.props.size<=4096)(hs:x.big.size<=4096)(hK:aS w)(hd:0<=deep/\deep<=100)(hbk:5≠b)(IH:FD g (deep+1)):
  Calls Tryz.prog 380 #[.pointer (some ⟨b,0,none⟩),.int .i64 deep] w (zM ((!x.told||Cm (ak x.mta'))&&qK 8 (ak x.props)&&Ao g x) w b x):=by
 cases ht:x.told with
 |false=>
  have:=CZ g w b x s1 s2 s3 s4 deep h ht hp hs hK hd hbk IH;simpa using this
 |true=>
  have:=Jo g w b x s1 s2 s3 s4 deep h ht hm hp hs hK hd hbk IH;simpa[Bool.and_assoc]using this
theorem Wq(n:Nat)(a:Addr)(w:World):(method (n+1) 376 (.pointer (some a)) "crier/metric.take").run Tryz.prog w=.ok (381,.pointer (some a)) w:=by kernel_rfl
theorem Ws(n:Nat)(a:Addr)(w:World):(method (n+1) 376 (.pointer (some a)) "crier/metric.done").run Tryz.prog w=.ok (380,.pointer (some a)) w:=by kernel_rfl
theorem R3(n:Nat)(a:Addr)(w:World):(method (n+1) 549 (.pointer (some a)) "crier/metric.take").run Tryz.prog w=.ok (441,.pointer (some a)) w:=by kernel_rfl
theorem R4(n:Nat)(a:Addr)(w:World):(method (n+1) 549 (.pointer (some a)) "crier/metric.done").run Tryz.prog w=.ok (440,.pointer (some a)) w:=by kernel_rfl
structure MT.Ok (x:MT):Prop where
 me:x.mta'.size<=4096
 pr:x.props.size<=4096
 big:x.big.size<=4096
 al0:0<=x.m.al
 al1:x.m.al<=18446744073709551615
 ty0:0<=x.m.ty
 ty1:x.m.ty<=4294967295
 k0:0<=x.m.v.k
 k1:x.m.v.k<=9
 n0:0<=x.m.v.n
 n1:x.m.v.n<=18446744073709551615
theorem MT.Ok.zero:MT.zero.Ok:=⟨by decide,by decide,by decide,by decide,by decide,by decide,by decide,by decide,by decide,by decide,by decide⟩
theorem R5{base:Int}{raw:Bool}{v y:PV}{f:bN}(hv:0<=v.k/\v.k<=9/\0<=v.n/\v.n<=18446744073709551615)(hf:f.Ok)(h:jg base raw v f=some y):0<=y.k/\y.k<=9/\0<=y.n/\y.n<=18446744073709551615:=by
 have h0:=hf.v0;have h1:=hf.v1;have hk:0<=iQ f.num base raw/\iQ f.num base raw<=9:=by unfold iQ;split<;>omega
 unfold jg at h;split at h
 ·cases h;exact hv
 ·split at h
  ·cases h
  ·split at h
   ·cases h
   ·cases h;exact⟨hk.1,hk.2,h0,h1⟩
theorem R6{x y:MT}{f:bN}(hx:x.Ok)(hf:f.Ok)(h:bD x f=some y):y.Ok:=by
 obtain⟨a1,a2,a3,a4,a5,a6,a7,a8,a9,J9,Ka⟩:=hx;have h0:=hf.v0;have h1:=hf.v1;have h2:=hf.t;unfold bD at h;by_cases c1:f.num=1
 ·rw[if_pos c1]at h
  by_cases d:f.kind=2
  ·rw[if_pos d]at h
   cases h;exact⟨a1,a2,a3,a4,a5,a6,a7,a8,a9,J9,Ka⟩
  ·rw[if_neg d]at h
   cases h
 rw[if_neg c1]at h;by_cases c2:f.num=2
 ·rw[if_pos c2]at h
  by_cases d:f.kind=0
  ·rw[if_pos d]at h
   cases h;exact⟨a1,a2,a3,h0,h1,a6,a7,a8,a9,J9,Ka⟩
  ·rw[if_neg d]at h
   cases h
 rw[if_neg c2]at h;by_cases c3:f.num=3
 ·rw[if_pos c3]at h
  by_cases d:f.kind=0
  ·rw[if_pos d]at h
   cases h;exact⟨a1,a2,a3,a4,a5,a6,a7,a8,a9,J9,Ka⟩
  ·rw[if_neg d]at h
   cases h
 rw[if_neg c3]at h;by_cases c4:f.num=4
 ·rw[if_pos c4]at h
  by_cases d:f.kind=0/\f.val<=4294967295
  ·rw[if_pos d]at h
   cases h;exact⟨a1,a2,a3,a4,a5,h0,d.2,a8,a9,J9,Ka⟩
  ·rw[if_neg d]at h
   cases h
 rw[if_neg c4]at h;by_cases c5:f.num=5
 ·rw[if_pos c5]at h
  by_cases d:f.kind=0/\f.val<=1
  ·rw[if_pos d]at h
   cases h;exact⟨a1,a2,a3,a4,a5,a6,a7,a8,a9,J9,Ka⟩
  ·rw[if_neg d]at h
   cases h
 rw[if_neg c5]at h;by_cases c6:f.num=6
 ·rw[if_pos c6]at h
  by_cases d:f.kind=0/\f.val<=1
  ·rw[if_pos d]at h
   cases h;exact⟨a1,a2,a3,a4,a5,a6,a7,a8,a9,J9,Ka⟩
  ·rw[if_neg d]at h
   cases h
 rw[if_neg c6]at h;by_cases c7:f.num=7
 ·rw[if_pos c7]at h
  by_cases d:f.kind=0/\f.val<=1
  ·rw[if_pos d]at h
   cases h;exact⟨a1,a2,a3,a4,a5,a6,a7,a8,a9,J9,Ka⟩
  ·rw[if_neg d]at h
   cases h
 rw[if_neg c7]at h;by_cases c8:f.num=8
 ·rw[if_pos c8]at h
  by_cases d:f.kind=2
  ·rw[if_pos d]at h
   cases h;exact⟨h2,a2,a3,a4,a5,a6,a7,a8,a9,J9,Ka⟩
  ·rw[if_neg d]at h
   cases h
 rw[if_neg c8]at h;by_cases c9:f.num=9
 ·rw[if_pos c9]at h
  by_cases d:f.kind=2
  ·rw[if_pos d]at h
   cases h;exact⟨a1,h2,a3,a4,a5,a6,a7,a8,a9,J9,Ka⟩
  ·rw[if_neg d]at h
   cases h
 rw[if_neg c9]at h;by_cases c17:f.num=17
 ·rw[if_pos c17]at h
  by_cases d:f.kind=2
  ·rw[if_pos d]at h
   cases h;exact⟨a1,a2,h2,a4,a5,a6,a7,(show(0:Int)<=8 by decide),(show(8:Int)<=9 by decide),(show(0:Int)<=0 by decide),(show(0:Int)<=18446744073709551615 by decide)⟩
  ·rw[if_neg d]at h
   cases h
 rw[if_neg c17]at h;by_cases c18:f.num=18
 ·rw[if_pos c18]at h
  by_cases d:f.kind=2
  ·rw[if_pos d]at h
   cases h;exact⟨a1,a2,h2,a4,a5,a6,a7,(show(0:Int)<=9 by decide),(show(9:Int)<=9 by decide),(show(0:Int)<=0 by decide),(show(0:Int)<=18446744073709551615 by decide)⟩
  ·rw[if_neg d]at h
   cases h
 rw[if_neg c18]at h;obtain⟨v,hv,rfl⟩:=Option.map_eq_some_iff.1 h;by_cases d:v.k=0
 ·rw[if_pos d]
  exact⟨a1,a2,a3,a4,a5,a6,a7,a8,a9,J9,Ka⟩
 ·rw[if_neg d]
  obtain⟨q1,q2,q3,q4⟩:=R5 (v:=PV.zero) (by decide) hf hv;exact⟨a1,a2,a3,a4,a5,a6,a7,q1,q2,q3,q4⟩
def YT(g:List Int->Bool)(B:List Int):Option MT:=match uH B with
 |none=>none
 |some l=>(l.foldlM bD MT.zero).bind fun x=>if((!x.told||Cm (ak x.mta'))&&qK 8 (ak x.props)&&Ao g x)=true then some x else none
def C9(r:Option MT)(W0:World)(b:Nat)(e:Ending)(w':World):Prop:=
 match r with
 |some x=>e=.returned (.int .i64 0)/\(∃t1 t2 t3 t4,xU w' b x t1 t2 t3 t4)/\x.Ok/\ai [] W0 w'
 |none=>(∃ec:Int,ec≠0/\e=.returned (.int .i64 ec))/\ai [] W0 w'
theorem Da{r:Option MT}{W0 w':World}{b:Nat}{ec:Int}(h:r=none)(aD:ec≠0)(ho:ai [] W0 w'):C9 r W0 b (.returned (.int .i64 ec)) w':=by subst h;exact⟨⟨ec,aD,rfl⟩,ho⟩
theorem ZM{r:Option MT}{W0 w':World}{b:Nat}{x:MT}(h:r=some x)(hx: ∃t1 t2 t3 t4,xU w' b x t1 t2 t3 t4)(hk:x.Ok)(ho:ai [] W0 w'):C9 r W0 b (.returned (.int .i64 0)) w':=by subst h;exact⟨rfl,hx,hk,ho⟩
theorem NC(g:List Int->Bool)(W0 w:World)(b:Nat)(s:ByteArray)(deep:Int)(h:bO w b MT.zero)(hb:W0.heap.size<=b)(ho:ai [] W0 w)(hs:s.size<=4096)(hK:aS W0)(hd:0<=deep/\deep<=100)(IH:FD g (deep+1)):
  Calls Tryz.prog 257 #[.iface 376 (.pointer (some ⟨b,0,none⟩)),.string s,.int .i64 deep] w (C9 (YT g (ak s)) W0 b):=by
 obtain⟨ok,hok⟩: ∃ok,YT g (ak s)=ok:=⟨_,rfl⟩;rw[hok];unfold YT at hok;obtain⟨w1,c,hcv,aL,cW⟩:=sK s w (by omega);have mT:=Wq;have mD:=Ws;have hbw:=aj h;have hbk:5≠b:=by
  have:=block_lt_of_cell (hK 0 (by omega));simp only at this;omega
 have hW:Hid (∀W,ai [b] w W->ai [] W0 W):=af fun W h=>ho.trans' h (fun x hx=>.inr (by simp at hx;subst hx;exact hb))
 have hK':Hid (∀W,ai [b] w W->aS W):=af fun W h=>hK.own (hW.out W h)
 have cDn:=af fun W x (hx:bO W b x) (hxk:x.Ok) (hKW:aS W)=>Nw g W b x Sh.nil Sh.nil Sh.nil Sh.nil deep hx.e hxk.me hxk.pr hxk.big hKW hd hbk IH
 change Hid _ at IH;replace cW:=af cW;replace h:=af h;clear hK aL ho hb hd hbk;go_enter Tryz.func257,Tryz.ntmps257
 go_wp2_with fail
 refine cW.out.mono ?_;intro e w2 hp;clear cW hcv;cases hw:uH (ak s)with
 |none=>
  rw[hw]at hp hok;simp only at hok;obtain⟨⟨ec,aD,rfl⟩,hO2⟩:=hp;have aK:=af hok.symm;have q:(ec !=0)=true:=by simpa using aD
  change Hid _ at aD;replace hO2:=af (hW.out _ hO2.nil);clear hw hok;go_wp2_with fail
  go_ret
  exact Da aK.out aD.out hO2.out
 |some l=>
  rw[hw]at hp hok;simp only at hok;obtain⟨⟨aY,rfl,hS⟩,hO2⟩:=hp;obtain⟨hll,hf⟩:=nS (bU s) hw;have hvb: ∀g,aY.ownBlock=some g->g<w2.heap.size/\g≠b:=fun g hg=>by have:=hS.block hg;exact⟨this.2,by omega⟩
  have uO:=af (hS.reads eT);obtain⟨va,vc,rfl⟩:=hS.sl;have uV:=af (h.out.own hO2 (by simp));have dx:=af hO2;change Hid _ at hf hvb;obtain⟨R,hR⟩: ∃R,l.foldlM bD MT.zero=R:=⟨_,rfl⟩;rw[hR]at hok;change Hid _ at hR hok;clear hw hS hO2 h;go_wp2_with fail
  go_loopg[23] l.length (fun gg s23 wr=> ∃(k:Nat) (x:MT),k<=l.length/\gg=l.length-k/\s23=.int .i64 k/\Aside (bO wr b x/\ai [b] w2 wr/\x.Ok/\(l.drop k).foldlM bD x=R))
  case atStart=>exact⟨0,_,by omega,by omega,rfl,uV.out,ai.refl _ _,MT.Ok.zero,by simpa using hR.out⟩
  case round=>
   obtain⟨k,x,hk,rfl,rfl,hP,hOb,hxk,rY⟩:=hrel;have k0:(0:Int)<=k:=by omega
   have OW:=dx.out.nil.trans hOb;by_cases hlt:k<l.length
   ·have k1:(k:Int)<l.length:=by omega
    have hwk:IntKind.i64.wrap ((k:Int)+1)=(k:Int)+1:=IntWalk.i64_in _ (by omega);obtain⟨b1,o1,rfl,c0,c1,c2,c3⟩:=(uO.out.own hOb (fun g hg=>by have:=(hvb.out g hg).2;simpa using this)).fld hlt;have hF:=hf.out l[k] (List.getElem_mem hlt);rw[List.drop_eq_getElem_cons hlt,List.foldlM_cons]at rY;generalize l[k]=f at*;have hA:=(ai.refl [] wr).alloc (.cells (fL f).toArray 100);have cT:=Mx b x f _ (hP.own hA (by simp)) hF (hK'.out _ (OW.trans hA.nil));have hst:=fun y=>R6 (y:=y) hxk hF
    have Ay:=af (hOb.trans hA.nil);have ajd:=af (hW.out _ (OW.trans hA.nil));obtain⟨⟨d0,d1,d2,d3⟩,-⟩:=q4 (heap_alloc_new wr (.cells (fL f).toArray 100));clear hA OW hP hxk hOb hF;cases hms:bD x f with
    |none=>
     rw[hms]at cT rY;have aK:ok=none:=by
      have h1:R=none:=rY.symm;have h2:=hok.out;rw[h1]at h2;exact h2.symm
     change Hid _ at aK;obtain⟨f1,f2,f3,f4⟩:=f;unfold fL at*;simp only at*;unfold bM at cT;replace cT:=af cT;clear hst rY hms uV;go_wp2_with fail
     refine cT.out.mono ?_;rintro e w5 ⟨⟨ec,aD,rfl⟩,aF⟩;have q:(ec !=0)=true:=by simpa using aD
     change Hid _ at aD;replace aF:=af (hW.out _ ((dx.out.nil.trans Ay.out).trans aF));clear cT;go_wp2_with fail
     go_ret
     exact Da aK.out aD.out aF.out
    |some y=>
     rw[hms]at cT rY;have hyk:=af (hst y hms);replace rY:=af (show(l.drop (k+1)).foldlM bD y=R from rY);obtain⟨f1,f2,f3,f4⟩:=f;unfold fL at*;simp only at*;unfold bM at cT;replace cT:=af cT;clear hst hms uV;go_wp2_with fail
     refine cT.out.mono ?_;rintro e w5 ⟨rfl,hP',jM⟩;have UL:=af (Ay.out.trans jM);change Hid _ at hP';clear jM d0 d1 d2 d3 cT;go_wp2_with fail
     go_roundg(l.length-(k+1))
     case measure=>omega
     case rel=>exact⟨k+1,_,by omega,rfl,by simp,hP'.out,UL.out,hyk.out,rY.out⟩
   ·have k1: ¬(k:Int)<l.length:=by omega
    rw[List.drop_eq_nil_of_le (by omega)]at rY;have hR2:some x=R:=rY;have cD:=cDn.out wr x hP hxk (hK'.out _ OW);have hok2:=hok.out;rw[<-hR2]at hok2;simp only[Option.bind_some]at hok2;have dK:=af (fun W (h:ai [b] wr W)=>hW.out W (OW.trans h));change Hid _ at hxk;generalize((!x.told||Cm (ak x.mta'))&&qK 8 (ak x.props)&&Ao g x)=dn at*;unfold zM at cD;clear rY hR2 hP hOb OW hok hR uV;cases dn with
    |false=>
     have aK:=af (show ok=none from hok2.symm);replace cD:=af cD;clear hok2;go_wp2_with fail
     refine cD.out.mono ?_;rintro e w5 ⟨⟨ec,aD,rfl⟩,aF⟩;change Hid _ at aD;replace aF:=af (dK.out _ aF);go_wp2_with fail
     go_ret
     exact Da aK.out aD.out aF.out
    |true=>
     have jF:=af (show ok=some x from hok2.symm);replace cD:=af cD;clear hok2;go_wp2_with fail
     refine cD.out.mono ?_;rintro e w5 ⟨rfl,hx,aF⟩;change Hid _ at hx;replace aF:=af (dK.out _ aF);go_wp2_with fail
     go_ret
     exact ZM jF.out hx.out hxk.out aF.out
end Go.Proofs.YtedcakchekaemaaGreatDoor
namespace Go.Proofs.YtedcakchekaemaaGreatDoor
open Go.RowKit
def EH(w0 wr:World)(n:Nat)(g nm:ByteArray)(s:EN):Prop:= ∃L,au wr n g nm L s/\(∀x∈L.feet n,w0.heap.size<=x)/\ai [] w0 wr
theorem EH.nil'{w0 wr w':World}{n:Nat}{g nm:ByteArray}{s:EN}(h:EH w0 wr n g nm s)(ho:ai [] wr w'):EH w0 w' n g nm s:=by
 obtain⟨L,h1,h2,h3⟩:=h;exact⟨L,h1.nil' ho,h2,h3.trans ho⟩
theorem EH.own{w0 wr:World}{n:Nat}{g nm:ByteArray}{s:EN}(h:EH w0 wr n g nm s):ai [] w0 wr:=by
 obtain⟨L,h1,h2,h3⟩:=h;exact h3
theorem EH.step{w0 wr w':World}{n:Nat}{g nm:ByteArray}{s':EN}{L:EW}(h2: ∀x∈L.feet n,w0.heap.size<=x)(h3:ai [] w0 wr)(h: ∃L',au w' n g nm L' s'/\ai (L.feet n) wr w'/\(∀x∈L'.feet n,x∈L.feet n\/wr.heap.size<=x)):EH w0 w' n g nm s':=by
 obtain⟨L',k1,k2,k3⟩:=h;refine⟨L',k1,fun x hx=>?_,h3.trans' k2 (fun x hx=>.inr (h2 x hx))⟩;rcases k3 x hx with h4|h4
 ·exact h2 x h4
 ·exact Nat.le_trans h3.size h4
theorem EH.post{w0 wr:World}{n:Nat}{g nm:ByteArray}{L:EW}{r:Int×EN}(h2: ∀x∈L.feet n,w0.heap.size<=x)(h3:ai [] w0 wr){e:Ending}{w':World}(h:dQ n g nm L r wr e w'):e=.returned (.int .i64 r.1)/\EH w0 w' n g nm r.2:=⟨h.1,EH.step h2 h3 h.2⟩
theorem EH.new(g nm:ByteArray)(w:World)(hg:g.toList.isEmpty=false)(hn:nm.toList.isEmpty=false):
  Calls Tryz.prog 93 #[.string g,.string nm] w fun e w'=> ∃n,e=.returned (.tuple #[.pointer (some ⟨n,0,none⟩),.int .i64 0])/\EH w w' n g nm ⟨false,0,0,false,false,[],[],[]⟩:=
 (zF g nm w hg hn).mono fun _ _ ⟨n,L,h1,h2,h3,h4⟩=>⟨n,h1,L,h2,h3,h4⟩
end Go.Proofs.YtedcakchekaemaaGreatDoor
namespace Go.Proofs.YtedcakchekaemaaGreatDoor
open Go.RowKit
variable [Kd]
def KS(l:List bN):List ByteArray:=(bA l 2).map (·.text)
def KT(l:List bN):List ByteArray:=(bA l 3).map (·.text)
theorem Wu{l:List bN}{k:Nat}(hk:k<l.length)(hp:kD l[k]=true):dD (KS (l.take k),KT (l.take k)) l[k]=some (KS (l.take (k+1)),KT (l.take (k+1))):=by
 unfold dD;rw[if_pos hp]
 congr 1
 unfold KS KT;rw[wP hk,wP hk];by_cases h2:l[k].num=2
 ·rw[if_pos h2];simp[h2]
 ·rw[if_neg h2]
  by_cases h3:l[k].num=3
  ·rw[if_pos h3];simp[h3]
  ·rw[if_neg h3];simp[h2,h3]
theorem Wv(l:List bN):(KS l).length<=l.length:=by unfold KS bA;rw[List.length_map];exact List.length_filter_le _ _
theorem Ww(l:List bN):(KT l).length<=l.length:=by unfold KT bA;rw[List.length_map];exact List.length_filter_le _ _
theorem ZN{l:List bN}(h: ∀f∈l,f.Ok): ∀s∈KS l,s.size<=4096:=by
 intro s hs;obtain⟨f,hf,rfl⟩:=List.mem_map.1 hs;exact(h f (List.mem_filter.1 hf).1).t
theorem ZO{l:List bN}(h: ∀f∈l,f.Ok): ∀s∈KT l,s.size<=4096:=by
 intro s hs;obtain⟨f,hf,rfl⟩:=List.mem_map.1 hs;exact(h f (List.mem_filter.1 hf).1).t
theorem Wx(g:List Int->Option PM)(B:List Int):Cn (fun C=>(g C).isSome) B=match uH B with
 |none=>false
 |some l=>l.all kD&&(decide ((KS l).length<=64)&&decide ((KT l).length<=32)&&(KS l).all (fun s=>(g (ak s)).isSome)&&(KT l).all (fun s=>xQ (ak s))):=by
 unfold Cn KS KT;cases uH B with
 |none=>rfl
 |some l=>simp[List.all_map,Function.comp_def,Bool.and_assoc]
theorem Jq(g:List Int->Option PM)(W0 w:World)(b:Nat)(p:Gw)(s:ByteArray)(deep:Int)(h:wB W0 w b p (.slice none 0 0) (.slice none 0 0) [] [])(hs:s.size<=4096)(hK:aS W0)(IH:NA g deep):
  Calls Tryz.prog 257 #[.iface 549 (.pointer (some ⟨b,0,none⟩)),.string s,.int .i64 deep] w (C8 (Cn (fun C=>(g C).isSome) (ak s)) W0 b):=by
 obtain⟨ok,hok⟩: ∃ok,Cn (fun C=>(g C).isSome) (ak s)=ok:=⟨_,rfl⟩;rw[hok];rw[Wx]at hok;obtain⟨w1,c,hcv,aL,cW⟩:=sK s w (by omega);have mT:=R3;have mD:=R4;have hbw:=aj h.row;change Hid _ at IH;replace cW:=af cW;replace h:=af h;have Lb:=af hK;clear hK aL;go_enter Tryz.func257,Tryz.ntmps257
 go_wp2_with fail
 refine cW.out.mono ?_;intro e w2 hp;clear cW hcv;cases hw:uH (ak s)with
 |none=>
  rw[hw]at hp hok;simp only at hok;obtain⟨⟨ec,aD,rfl⟩,hO2⟩:=hp;have aK:=af hok.symm;have q:(ec !=0)=true:=by simpa using aD
  change Hid _ at aD;replace hO2:=af (h.out.own.trans hO2);clear hw hok;go_wp2_with fail
  go_ret
  exact wY aK.out aD.out hO2.out
 |some l=>
  rw[hw]at hp hok;simp only at hok;obtain⟨⟨aY,rfl,hS⟩,hO2⟩:=hp;obtain⟨hll,hf⟩:=nS (bU s) hw;have hvb: ∀g,aY.ownBlock=some g->g<w2.heap.size/\g≠b:=fun g hg=>by have:=hS.block hg;exact⟨this.2,by omega⟩
  have uO:=af (hS.reads eT);obtain⟨va,vc,rfl⟩:=hS.sl;have uV:=af (h.out.nil' hO2);change Hid _ at hf hok hvb;clear hw hS hO2 h;go_wp2_with fail
  go_loopg[23] l.length (fun gg s23 wr=> ∃(k:Nat) (p:Gw) (mv nv:Value),k<=l.length/\gg=l.length-k/\s23=.int .i64 k/\Aside (wB W0 wr b p mv nv (KS (l.take k)) (KT (l.take k))/\ai [b] w2 wr/\((∀g,mv.ownBlock=some g->w2.heap.size<=g)/\(∀g,nv.ownBlock=some g->w2.heap.size<=g))/\(l.take k).all kD=true))
  case atStart=>exact⟨0,_,_,_,by omega,by omega,rfl,uV.out,ai.refl _ _,⟨fun g hg=>(by cases hg),fun g hg=>(by cases hg)⟩,by simp⟩
  case round=>
   obtain⟨k,p,mv,nv,hk,rfl,rfl,hP,hOb,hrg,hgood⟩:=hrel;have k0:(0:Int)<=k:=by omega
   by_cases hlt:k<l.length
   ·have k1:(k:Int)<l.length:=by omega
    have hwk:IntKind.i64.wrap ((k:Int)+1)=(k:Int)+1:=IntWalk.i64_in _ (by omega);obtain⟨b1,o1,rfl,c0,c1,c2,c3⟩:=(uO.out.own hOb (fun g hg=>by have:=(hvb.out g hg).2;simpa using this)).fld hlt;have hstep:=fun hp=>Wu (l:=l) hlt hp
    have hL1:(KS (l.take k)).length<=256:=Nat.le_trans (Wv _) (by rw[List.length_take];omega);have hL2:(KT (l.take k)).length<=256:=Nat.le_trans (Ww _) (by rw[List.length_take];omega);have hnext:kD l[k]=true->(l.take (k+1)).all kD=true:=fun hh=>by
     rw[List.take_succ_eq_append_getElem hlt,List.all_append,hgood];simp[hh]
    have hbad:kD l[k]=false->ok=false:=fun hh=>by
     have hr:=hok.out;rw[show l.all kD=false by rw[List.all_eq_false];exact⟨l[k],List.getElem_mem hlt,by simp[hh]⟩]at hr;simpa using hr.symm
    generalize l[k]=f at*;generalize KS (l.take k)=LM at*;generalize KT (l.take k)=LN at*;generalize hLM:KS (l.take (k+1))=LM' at*;generalize hLN:KT (l.take (k+1))=LN' at*;change Hid _ at hLM hLN;have hA:=(ai.refl [] wr).alloc (.cells (fL f).toArray 100);have cT:=Jk W0 _ b p mv nv (LM,LN) f (hP.nil' hA) hL1 hL2;have hszA:=hA.size;obtain⟨⟨d0,d1,d2,d3⟩,-⟩:=q4 (heap_alloc_new wr (.cells (fL f).toArray 100));obtain⟨f1,f2,f3,f4⟩:=f;unfold fL at*;simp only at*;cases hpf:kD ⟨f1,f2,f3,f4⟩with
    |true=>
     rw[hstep hpf]at cT;unfold lZ at cT;have hg:=af (hnext hpf);replace cT:=af cT;have aaP:=af (hOb.trans hA.nil);have Yq:=af (hOb.trans (hA.nil (S:=[b]))).size;change Hid _ at hrg;clear hstep hnext hbad hgood hpf hP hOb hA hszA uV hL1 hL2;go_wp2_with fail
     refine cT.out.mono ?_;rintro e w5 ⟨rfl,p',mv',Y9,hP',jM,hg1,hg2⟩;have UL:=af (aaP.out.trans' jM (fun x hx=>by
      rcases List.mem_cons.1 hx with rfl|hx
      ·exact .inl (by simp)
      ·rcases List.mem_append.1 hx with hx|hx
       ·exact .inr (hrg.out.1 x (Option.mem_toList.1 hx))
       ·exact .inr (hrg.out.2 x (Option.mem_toList.1 hx))))
     have aaQ:=af (show(∀g,mv'.ownBlock=some g->w2.heap.size<=g)/\(∀g,Y9.ownBlock=some g->w2.heap.size<=g)from⟨fun g hg=>(hg1 g hg).elim (fun h4=>hrg.out.1 g h4) (fun h4=>Nat.le_trans Yq.out h4),fun g hg=>(hg2 g hg).elim (fun h4=>hrg.out.2 g h4) (fun h4=>Nat.le_trans Yq.out h4)⟩);change Hid _ at hP';clear jM hg1 hg2 d0 d1 d2 d3 cT;go_wp2_with fail
     go_roundg(l.length-(k+1))
     case measure=>omega
     case rel=>exact⟨k+1,_,_,_,by omega,rfl,by simp,by rw[hLM.out,hLN.out];exact hP'.out,UL.out,aaQ.out,hg.out⟩
    |false=>
     rw[show dD (LM,LN) ⟨f1,f2,f3,f4⟩=none by unfold dD;rw[if_neg (by rw[hpf];simp)]]at cT;unfold lZ at cT;have aK:=af (hbad hpf);replace cT:=af cT;clear hstep hnext hbad hgood hpf hP hOb hA hszA uV hL1 hL2;go_wp2_with fail
     refine cT.out.mono ?_;rintro e w5 ⟨⟨ec,aD,rfl⟩,aF⟩;have q:(ec !=0)=true:=by simpa using aD
     change Hid _ at aD aF;go_wp2_with fail
     go_ret
     exact wY aK.out aD.out aF.out
   ·have k1: ¬(k:Int)<l.length:=by omega
    rw[List.take_of_length_le (by omega)]at hgood hP;have cD:=Jp g W0 wr b p mv nv (KS l) (KT l) deep hP (ZN hf.out) (ZO hf.out) Lb.out IH.out;have hok2:=hok.out;rw[hgood,Bool.true_and]at hok2;rw[hok2]at cD;clear hgood hP hOb hrg hok hok2 uV;unfold C8 at cD;cases ok with
    |false=>
     replace cD:=af cD;go_wp2_with fail
     refine cD.out.mono ?_;rintro e w5 ⟨⟨ec,aD,rfl⟩,aF⟩;change Hid _ at aD aF;go_wp2_with fail
     go_ret
     exact⟨⟨ec,aD.out,rfl⟩,aF.out⟩
    |true=>
     replace cD:=af cD;go_wp2_with fail
     refine cD.out.mono ?_;rintro e w5 ⟨rfl,hx,aF⟩;change Hid _ at hx aF;go_wp2_with fail
     go_ret
     exact⟨rfl,hx.out,aF.out⟩
end Go.Proofs.YtedcakchekaemaaGreatDoor
namespace Go.Proofs.YtedcakchekaemaaGreatDoor
open Go.RowKit Go.Sort Go.Lib Go.Shelf
section
variable {α : Type} {enc : α → List Value} {k : Nat}
theorem BD[Inhabited α](hk: ∀x,(enc x).length=k)(l:List α)(t:Nat)(h:t<l.length*k):(aI enc l)[t]?=some ((flatK enc k l.toArray)[t]!):=by
 have hk0:0<k:=by
  rcases Nat.eq_zero_or_pos k with rfl|h0
  ·simp at h
  ·exact h0
 have hi:t/k<l.length:=Nat.div_lt_of_lt_mul (by rwa[Nat.mul_comm]);have hc:t%k<k:=Nat.mod_lt _ hk0;rw[get_flatK _ _ _ _ (by simpa using h)];have e:=fM hk l (t/k) (t%k) l[t/k] (List.getElem?_eq_getElem hi) hc;rw[Nat.div_add_mod' t k]at e;rw[e];have e2:l.toArray[t/k]! =l[t/k]:=by simp[hi]
 rw[e2];have hl:t%k<(enc l[t/k]).length:=by rw[hk];exact hc
 simp[hl]
variable [Inhabited α]
theorem si.holds{T:TypeId}{w:World}{g cap:Nat}{l:List α}(h:si T enc k w g cap l)(hk: ∀x,(enc x).length=k):HoldsK enc k w g 0 l.toArray:=by
 intro j hj;simp only[size_flatK,List.size_toArray]at hj;refine⟨?_,h.frozen _⟩;have:=h.flat (BD hk l j hj) hj;simpa using this
theorem si.sorted{T:TypeId}{w:World}{g cap:Nat}{l:List α}(h:si T enc k w g cap l)(hk: ∀x,(enc x).length=k){d':Array α}(hd:d'.size=l.length)(n:Nat)(os:Array Obj):
  si T enc k (sortWorldK enc k w g 0 n d' os) g cap d'.toList/\ai [g] w (sortWorldK enc k w g 0 n d' os):=by
 have hlt:=h.lt;obtain⟨cur,hb,h1,h2,h3,h4⟩:=h;have hheap:(putRowK enc k (Sort.ahead w n) g 0 d').heap=w.heap.modify g (onCells (putCells id 0 (flatK enc k d'))):=rfl;have hsz:(putRowK enc k (Sort.ahead w n) g 0 d').heap.size=w.heap.size:=by rw[hheap];simp
 unfold sortWorldK;refine⟨⟨putCells id 0 (flatK enc k d') cur,?_,by simpa[hd]using h1,h2,by simp[putCells,h3],?_⟩,rfl,rfl,rfl,by simp[hsz],?_⟩
 ·rw[heap_grow_old _ _ (by rw[hsz];exact hlt),hheap,Array.getElem?_modify,if_pos rfl,hb]
  rfl
 ·have hcap:l.length*k<=cap*k:=Nat.mul_le_mul_right _ h1
  apply List.ext_getElem?;intro t;by_cases ht:t<l.length*k
  ·have ht2:t<d'.toList.length*k:=by simpa[hd]using ht
   have e:=BD hk d'.toList t ht2;rw[List.getElem?_take_of_lt ht2,e];simp only[putCells,Array.toList_mapIdx,List.getElem?_mapIdx,Array.getElem?_toList];have htc:t<cur.size:=by rw[h3];omega
   rw[Array.getElem?_eq_getElem htc];simp only[Option.map_some,size_flatK,Nat.zero_add,Nat.zero_le,true_and,Nat.sub_zero,id];rw[if_pos (by rw[hd];exact ht)]
  ·rw[List.getElem?_eq_none (by simp[hd];omega),List.getElem?_eq_none (by rw[bq hk];simp[hd];omega)]
 ·intro j hj hn
  have hjg:g≠j:=by simpa using Ne.symm (by simpa using hn)
  rw[heap_grow_old _ _ (by rw[hsz];exact hj),hheap,Array.getElem?_modify,if_neg hjg]
variable {P : Program} {ρ : Ren}
theorem SA(L:SlLaysF0.n6 P ρ)(aE: ∀w,(isAgg (ρ.t 24)).run P w=.ok true w)(zE: ∀w,(Go.sizeOf (ρ.t 24)).run P w=.ok k w)(hk: ∀x,(enc x).length=k)(h1: ∀x,∀v∈enc x,v.oneCell'=true)(cf:α->α->Int)(hO:SWO (ltOf cf))
  (f:Nat)(eg: ∀args w,(callFunc f args).run P w=.ok (.enter f args) w)(hcmp: ∀(x y:α) (W:World),Calls P f #[.agg (enc x).toArray,.agg (enc y).toArray] W fun e w'=>e=.returned (.int .i64 (cf x y))/\ ∃q os',w'=grow (W.drewN q) os')
  {T:TypeId}{w:World}{g cap:Nat}{l:List α}(h:si T enc k w g cap l)(hl:l.length<4611686018427387904):
  Calls P (ρ.f 6) #[.slice (some ⟨g,0,none⟩) l.length cap,.func (.func f) #[] #[]] w fun e w'=>
   e=.returned (.tuple #[])/\ ∃l',l'.Perm l/\l'.Pairwise (fun x y=>ltOf cf y x=false)/\si T enc k w' g cap l'/\ai [g] w w':=by
 have:=AnyQ.slices_SortFunc L k aE zE enc hk h1 cf hO f #[] g 0 cap l.toArray w eg (fun m os dk _ x y=>hcmp x y _) (h.holds hk) h.lt (by simpa using hl);simp only[List.size_toArray]at this;refine this.mono ?_;rintro e w' ⟨rfl,d',n,os,⟨hp1,_,hp2⟩,hs,rfl⟩;have hd:d'.size=l.length:=by simpa using hp1
 have hrow:=h.sorted hk hd n os;refine⟨rfl,d'.toList,?_,?_,hrow.1,hrow.2⟩
 ·have e1:d'.extract 0 l.length=d':=by rw[<-hd];simp
  rw[e1]at hp2;simpa using hp2
 ·rw[List.pairwise_iff_getElem]
  intro i j hi hj hij;have hi':i<d'.size:=by simpa using hi
  have hj':j<d'.size:=by simpa using hj
  have:=hs i j (Nat.zero_le _) hij (by omega);rw[getElem!_pos d' j hj',getElem!_pos d' i hi']at this;simpa using this
end
end Go.Proofs.YtedcakchekaemaaGreatDoor
namespace Go.Proofs.YtedcakchekaemaaGreatDoor
open Go.RowKit
variable [Kd]
theorem c5q{w:World}{b:Nat}{x0 x1 x2 x3 x4:Value}{T:TypeId}(h:w.heap[b]?=some (.cells #[x0,x1,x2,x3,x4] T (0,0))):
  w.cell? ⟨b,0,none⟩=some x0/\w.cell? ⟨b,1,none⟩=some x1/\w.cell? ⟨b,2,none⟩=some x2/\w.cell? ⟨b,3,none⟩=some x3/\w.cell? ⟨b,4,none⟩=some x4:=
 ⟨cell_of_row _ _ 0 _ _ _ h,cell_of_row _ _ 1 _ _ _ h,cell_of_row _ _ 2 _ _ _ h,cell_of_row _ _ 3 _ _ _ h,cell_of_row _ _ 4 _ _ _ h⟩
theorem z5q{w:World}{b:Nat}{x0 x1 x2 x3 x4:Value}{T:TypeId}(h:w.heap[b]?=some (.cells #[x0,x1,x2,x3,x4] T (0,0))):
  w.frozen? ⟨b,0,none⟩=false/\w.frozen? ⟨b,1,none⟩=false/\w.frozen? ⟨b,2,none⟩=false/\w.frozen? ⟨b,3,none⟩=false/\w.frozen? ⟨b,4,none⟩=false/\b<w.heap.size:=
 ⟨frozen_of_row w b 0 _ _ h,frozen_of_row w b 1 _ _ h,frozen_of_row w b 2 _ _ h,frozen_of_row w b 3 _ _ h,frozen_of_row w b 4 _ _ h,aj h⟩
theorem s5q{w:World}{b:Nat}{x0 x1 x2 x3 x4:Value}{T:TypeId}(h:w.heap[b]?=some (.cells #[x0,x1,x2,x3,x4] T (0,0)))(u0 u1 u2 u3 u4:Value):
  (((((w.setCell ⟨b,0,none⟩ u0).setCell ⟨b,1,none⟩ u1).setCell ⟨b,2,none⟩ u2).setCell ⟨b,3,none⟩ u3).setCell ⟨b,4,none⟩ u4).heap[b]?=some (.cells #[u0,u1,u2,u3,u4] T (0,0))/\ai [b] w (((((w.setCell ⟨b,0,none⟩ u0).setCell ⟨b,1,none⟩ u1).setCell ⟨b,2,none⟩ u2).setCell ⟨b,3,none⟩ u3).setCell ⟨b,4,none⟩ u4):=by
 have h0:=heap_setCell_same w b 0 _ T u0 h;have h1:=heap_setCell_same _ b 1 _ T u1 h0;have h2:=heap_setCell_same _ b 2 _ T u2 h1;have h3:=heap_setCell_same _ b 3 _ T u3 h2;have h4:=heap_setCell_same _ b 4 _ T u4 h3;exact⟨by simpa using h4,((((((ai.refl [b] w).setCell (.inl (by simp)) _).setCell (.inl (by simp)) _).setCell (.inl (by simp)) _).setCell (.inl (by simp)) _).setCell (.inl (by simp)) _)⟩
theorem Wy{ok:Bool}{w w':World}{e:Ending}(z1 z2:ByteArray)(z3:Bool)(a1:Option Addr)(n1 k1:Nat)(a2:Option Addr)(n2 k2:Nat)(h:ok=true)(he:e=.returned (.tuple #[.agg #[.string z1,.string z2,.bool z3,.slice a1 n1 k1,.slice a2 n2 k2],.int .i64 0]))(ho:ai [] w w'):CW ok w e w':=by subst h;exact⟨⟨z1,z2,z3,a1,n1,k1,a2,n2,k2,he⟩,ho⟩
theorem R7{ok:Bool}{w w':World}{e:Ending}{ec:Int}(z1 z2:ByteArray)(z3:Bool)(a1:Option Addr)(n1 k1:Nat)(a2:Option Addr)(n2 k2:Nat)(h:ok=false)(aD:ec≠0)(he:e=.returned (.tuple #[.agg #[.string z1,.string z2,.bool z3,.slice a1 n1 k1,.slice a2 n2 k2],.int .i64 ec]))(ho:ai [] w w'):CW ok w e w':=by subst h;exact⟨⟨z1,z2,z3,a1,n1,k1,a2,n2,k2,ec,aD,he⟩,ho⟩
theorem Wz(g:List Int->Option PM)(deep:Int)(IH:NA g deep):FD (Cn (fun C=>(g C).isSome)) deep:=by
 intro t w hs hK;have hA:=(ai.refl [] w).alloc (.cells #[.string ⟨#[]⟩,.string ⟨#[]⟩,.bool false,.slice none 0 0,.slice none 0 0] 249);have gL:=heap_alloc_new w (.cells #[.string ⟨#[]⟩,.string ⟨#[]⟩,.bool false,.slice none 0 0,.slice none 0 0] 249);have hB:=(ai.refl [] (w.alloc (.cells #[.string ⟨#[]⟩,.string ⟨#[]⟩,.bool false,.slice none 0 0,.slice none 0 0] 249))).alloc (.cells #[.string ⟨#[]⟩,.string ⟨#[]⟩,.bool false,.slice none 0 0,.slice none 0 0,.slice none 0 0,.slice none 0 0] 551);have cR:=Jq g (w.alloc (.cells #[.string ⟨#[]⟩,.string ⟨#[]⟩,.bool false,.slice none 0 0,.slice none 0 0] 249)) _ (w.heap.size+1) ⟨⟨#[]⟩,⟨#[]⟩,false⟩ t deep ⟨hB,heap_alloc2_new w _ _,by simp,Sl.nil _ _ _,Sl.nil _ _ _,fun g hg=>(by cases hg),fun g hg=>(by cases hg),fun g hg=>(by cases hg)⟩ hs (hK.own hA) IH;generalize Cn (fun C=>(g C).isSome) (ak t)=ok at*;replace cR:=af cR;clear hB hK IH hs;go_enter Tryz.func393,Tryz.ntmps393
 go_wp2_with fail
 refine cR.out.mono ?_;intro e w3 hp;clear cR;generalize hrb:w.heap.size=rb at*;change Hid _ at hrb;cases ok with
 |false=>
  obtain⟨⟨ec,aD,rfl⟩,hO⟩:=hp;have hO3:=hA.trans hO;have dF:=hO.heap gL (by simp);obtain⟨y0,y1,y2,y3,y4,_⟩:=z5q dF;obtain⟨r0,r1,r2,r3,r4⟩:=c5q dF;obtain⟨hs3,aO⟩:=s5q dF (.string ⟨#[]⟩) (.string ⟨#[]⟩) (.bool false) (.slice none 0 0) (.slice none 0 0);change Hid _ at hs3;replace aO:=af (hO3.trans' aO (fun x hx=>.inr (by simp at hx;have:=hrb.out;omega)));have q:(ec !=0)=true:=by simpa using aD
  change Hid _ at aD;clear hA hO gL dF hO3;go_wp2_with fail
  obtain⟨g0,g1,g2,g3,g4⟩:=c5q hs3.out;exact bodyPost_ret (v:=.tuple #[.agg #[.string ⟨#[]⟩,.string ⟨#[]⟩,.bool false,.slice none 0 0,.slice none 0 0],.int .i64 ec]) (by simp[results,Tryz.results393,go_sem,g0,g1,g2,g3,g4];try rfl) rfl (R7 _ _ _ _ _ _ _ _ _ rfl aD.out rfl aO.out)
 |true=>
  obtain⟨rfl,⟨⟨p1,p2,p3⟩,⟨a3,n3,k3⟩,⟨a4,n4,k4⟩,⟨a5,n5,k5⟩,⟨a6,n6,k6⟩,hx⟩,hO⟩:=hp;simp only at hx;obtain⟨e0,e1,e2,e3,e4,_,_⟩:=c7 hx;have hO3:=hA.trans hO;have dF:=hO.heap gL (by simp);obtain⟨y0,y1,y2,y3,y4,_⟩:=z5q dF;obtain⟨r0,r1,r2,r3,r4⟩:=c5q dF;obtain⟨hs3,aO⟩:=s5q dF (.string p1) (.string p2) (.bool p3) (.slice a3 n3 k3) (.slice a4 n4 k4);change Hid _ at hs3;replace aO:=af (hO3.trans' aO (fun x hx=>.inr (by simp at hx;have:=hrb.out;omega)));clear hA hO gL dF hO3 hx;go_wp2_with fail
  obtain⟨g0,g1,g2,g3,g4⟩:=c5q hs3.out;exact bodyPost_ret (v:=.tuple #[.agg #[.string p1,.string p2,.bool p3,.slice a3 n3 k3,.slice a4 n4 k4],.int .i64 0]) (by simp[results,Tryz.results393,go_sem,g0,g1,g2,g3,g4];try rfl) rfl (Wy _ _ _ _ _ _ _ _ _ rfl rfl aO.out)
def bW.none:bW:=⟨⟨#[]⟩,false,0,0,0,false,false,false,(Option.none,0,0),(Option.none,0,0),0,0,⟨#[]⟩,(Option.none,0,0),(Option.none,0,0)⟩
theorem KU{r:Option PM}{w w':World}{ec:Int}(h:r=Option.none)(aD:ec≠0)(ho:ai [] w w'):sQ r w (.returned (.tuple #[.agg #[.string ⟨#[]⟩,.bool false,.int .u64 0,.int .u64 0,.int .u32 0,.bool false,.bool false,.bool false,.slice none 0 0,.slice none 0 0,.int .i64 0,.int .u64 0,.string ⟨#[]⟩,.slice none 0 0,.slice none 0 0],.int .i64 ec])) w':=by subst h;exact⟨⟨bW.none,ec,aD,rfl⟩,ho⟩
theorem ZP{r:Option PM}{w w':World}{x:MT}(s1 s2 s3 s4:Sh)(h:r=some x.m)(hx:x.Ok)(ho:ai [] w w'):sQ r w (.returned (.tuple #[.agg #[.string x.m.name,.bool x.m.has,.int .u64 x.m.al,.int .u64 x.m.time,.int .u32 x.m.ty,.bool x.m.hist,.bool x.m.trans,.bool x.m.null,.slice s1.a s1.n s1.c,.slice s2.a s2.n s2.c,.int .i64 x.m.v.k,.int .u64 x.m.v.n,.string x.m.v.s,.slice s3.a s3.n s3.c,.slice s4.a s4.n s4.c],.int .i64 0])) w':=by
 subst h;obtain⟨a1,a2,a3,a4,a5,a6,a7,a8,a9,J9,Ka⟩:=hx;exact⟨⟨⟨x.m.name,x.m.has,x.m.al,x.m.time,x.m.ty,x.m.hist,x.m.trans,x.m.null,(s1.a,s1.n,s1.c),(s2.a,s2.n,s2.c),x.m.v.k,x.m.v.n,x.m.v.s,(s3.a,s3.n,s3.c),(s4.a,s4.n,s4.c)⟩,rfl,⟨a4,a5,a6,a7,(show(-9223372036854775808:Int)<=x.m.v.k by omega),(show x.m.v.k<=(9223372036854775807:Int)by omega),J9,Ka⟩,rfl⟩,ho⟩
theorem ND(g:List Int->Option PM)(hg: ∀B,g B=Option.none)(d:Int)(hd:8<d)(hd2:d<=100):NA g d:=by
 intro t w hs hK;rw[hg];have hA:=(ai.refl [] w).alloc (.cells #[.string ⟨#[]⟩,.bool false,.int .u64 0,.int .u64 0,.int .u32 0,.bool false,.bool false,.bool false,.slice none 0 0,.slice none 0 0,.int .i64 0,.int .u64 0,.string ⟨#[]⟩,.slice none 0 0,.slice none 0 0] 109);have gL:=heap_alloc_new w (.cells #[.string ⟨#[]⟩,.bool false,.int .u64 0,.int .u64 0,.int .u32 0,.bool false,.bool false,.bool false,.slice none 0 0,.slice none 0 0,.int .i64 0,.int .u64 0,.string ⟨#[]⟩,.slice none 0 0,.slice none 0 0] 109);obtain⟨y0,y1,y2,y3,y4,y5,y6,y7,y8,y9,yD,yE,yF,y13,y14,_⟩:=z15 gL;obtain⟨r0,r1,r2,r3,r4,r5,r6,r7,r8,r9,Pe,Pf,OC,Pg,Ph⟩:=KH gL;clear hK hs hg;change Hid _ at hA;go_enter Tryz.func213,Tryz.ntmps213
 go_wp2_with fail
 obtain⟨g0,g1,g2,g3,g4,g5,g6,g7,g8,g9,g10,g11,g12,g13,g14⟩:=KH gL;exact bodyPost_ret (v:=.tuple #[.agg #[.string ⟨#[]⟩,.bool false,.int .u64 0,.int .u64 0,.int .u32 0,.bool false,.bool false,.bool false,.slice none 0 0,.slice none 0 0,.int .i64 0,.int .u64 0,.string ⟨#[]⟩,.slice none 0 0,.slice none 0 0],.int .i64 12]) (by simp[results,Tryz.results213,go_sem,g0,g1,g2,g3,g4,g5,g6,g7,g8,g9,g10,g11,g12,g13,g14];try rfl) rfl (KU rfl (by decide) hA.out)
theorem NE(G:List Int->Bool)(d:Int)(hd:0<=d/\d<=8)(IH:FD G (d+1)):NA (fun B=>(YT G B).map (·.m)) d:=by
 intro t w hs hK;have hA:=(ai.refl [] w).alloc (.cells #[.string ⟨#[]⟩,.bool false,.int .u64 0,.int .u64 0,.int .u32 0,.bool false,.bool false,.bool false,.slice none 0 0,.slice none 0 0,.int .i64 0,.int .u64 0,.string ⟨#[]⟩,.slice none 0 0,.slice none 0 0] 109);have gL:=heap_alloc_new w (.cells #[.string ⟨#[]⟩,.bool false,.int .u64 0,.int .u64 0,.int .u32 0,.bool false,.bool false,.bool false,.slice none 0 0,.slice none 0 0,.int .i64 0,.int .u64 0,.string ⟨#[]⟩,.slice none 0 0,.slice none 0 0] 109);have hB:=(ai.refl [] (w.alloc (.cells #[.string ⟨#[]⟩,.bool false,.int .u64 0,.int .u64 0,.int .u32 0,.bool false,.bool false,.bool false,.slice none 0 0,.slice none 0 0,.int .i64 0,.int .u64 0,.string ⟨#[]⟩,.slice none 0 0,.slice none 0 0] 109))).alloc (.cells #[.string ⟨#[]⟩,.bool false,.int .u64 0,.int .u64 0,.int .u32 0,.bool false,.bool false,.bool false,.slice none 0 0,.slice none 0 0,.int .i64 0,.int .u64 0,.string ⟨#[]⟩,.slice none 0 0,.slice none 0 0,.string ⟨#[]⟩,.bool false,.string ⟨#[]⟩,.string ⟨#[]⟩] 378);have cR:=NC G (w.alloc (.cells #[.string ⟨#[]⟩,.bool false,.int .u64 0,.int .u64 0,.int .u32 0,.bool false,.bool false,.bool false,.slice none 0 0,.slice none 0 0,.int .i64 0,.int .u64 0,.string ⟨#[]⟩,.slice none 0 0,.slice none 0 0] 109)) _ (w.heap.size+1) t d (heap_alloc2_new w (.cells #[.string ⟨#[]⟩,.bool false,.int .u64 0,.int .u64 0,.int .u32 0,.bool false,.bool false,.bool false,.slice none 0 0,.slice none 0 0,.int .i64 0,.int .u64 0,.string ⟨#[]⟩,.slice none 0 0,.slice none 0 0] 109) (.cells #[.string ⟨#[]⟩,.bool false,.int .u64 0,.int .u64 0,.int .u32 0,.bool false,.bool false,.bool false,.slice none 0 0,.slice none 0 0,.int .i64 0,.int .u64 0,.string ⟨#[]⟩,.slice none 0 0,.slice none 0 0,.string ⟨#[]⟩,.bool false,.string ⟨#[]⟩,.string ⟨#[]⟩] 378)) (by simp) hB hs (hK.own hA) (by omega) IH;show Calls _ _ _ _ (sQ ((YT G (ak t)).map (·.m)) w);generalize YT G (ak t)=r at*;have hdd: ¬8<d:=by omega
 replace cR:=af cR;clear hB hK IH hs hd;go_enter Tryz.func213,Tryz.ntmps213
 go_wp2_with fail
 refine cR.out.mono ?_;intro e w3 hp;clear cR;generalize hrb:w.heap.size=rb at*;change Hid _ at hrb;cases r with
 |none=>
  obtain⟨⟨ec,aD,rfl⟩,hO⟩:=hp;have hO3:=hA.trans hO;have dF:=hO.heap gL (by simp);obtain⟨y0,y1,y2,y3,y4,y5,y6,y7,y8,y9,yD,yE,yF,y13,y14,_⟩:=z15 dF;obtain⟨r0,r1,r2,r3,r4,r5,r6,r7,r8,r9,Pe,Pf,OC,Pg,Ph⟩:=KH dF;obtain⟨hs3,aO⟩:=s15 dF (.string ⟨#[]⟩) (.bool false) (.int .u64 0) (.int .u64 0) (.int .u32 0) (.bool false) (.bool false) (.bool false) (.slice none 0 0) (.slice none 0 0) (.int .i64 0) (.int .u64 0) (.string ⟨#[]⟩) (.slice none 0 0) (.slice none 0 0);change Hid _ at hs3;replace aO:=af (hO3.trans' aO (fun x hx=>.inr (by simp at hx;have:=hrb.out;omega)));have q:(ec !=0)=true:=by simpa using aD
  change Hid _ at aD;clear hA hO gL dF hO3;go_wp2_with fail
  obtain⟨g0,g1,g2,g3,g4,g5,g6,g7,g8,g9,g10,g11,g12,g13,g14⟩:=KH hs3.out;exact bodyPost_ret (v:=.tuple #[.agg #[.string ⟨#[]⟩,.bool false,.int .u64 0,.int .u64 0,.int .u32 0,.bool false,.bool false,.bool false,.slice none 0 0,.slice none 0 0,.int .i64 0,.int .u64 0,.string ⟨#[]⟩,.slice none 0 0,.slice none 0 0],.int .i64 ec]) (by simp[results,Tryz.results213,go_sem,g0,g1,g2,g3,g4,g5,g6,g7,g8,g9,g10,g11,g12,g13,g14];try rfl) rfl (KU rfl aD.out aO.out)
 |some x=>
  obtain⟨rfl,⟨s1,s2,s3,s4,hx⟩,hxk,hO⟩:=hp;have hO3:=hA.trans hO;have dF:=hO.heap gL (by simp);unfold xU rP at hx;have e:=fun(i:Nat) (u:Value) (hu:_)=>(xU.cell (show xU w3 (rb+1) x s1 s2 s3 s4 from hx) i (u:=u) hu).1
  have e0:w3.cell? ⟨rb+1,0,none⟩=some (.string x.m.name):=e 0 _ rfl;have e1:w3.cell? ⟨rb+1,1,none⟩=some (.bool x.m.has):=e 1 _ rfl;have e2:w3.cell? ⟨rb+1,2,none⟩=some (.int .u64 x.m.al):=e 2 _ rfl;have e3:w3.cell? ⟨rb+1,3,none⟩=some (.int .u64 x.m.time):=e 3 _ rfl;have e4:w3.cell? ⟨rb+1,4,none⟩=some (.int .u32 x.m.ty):=e 4 _ rfl;have e5:w3.cell? ⟨rb+1,5,none⟩=some (.bool x.m.hist):=e 5 _ rfl;have e6:w3.cell? ⟨rb+1,6,none⟩=some (.bool x.m.trans):=e 6 _ rfl;have e7:w3.cell? ⟨rb+1,7,none⟩=some (.bool x.m.null):=e 7 _ rfl;have e8:w3.cell? ⟨rb+1,8,none⟩=some (.slice s1.a s1.n s1.c):=e 8 _ rfl;have e9:w3.cell? ⟨rb+1,9,none⟩=some (.slice s2.a s2.n s2.c):=e 9 _ rfl;have e10:w3.cell? ⟨rb+1,10,none⟩=some (.int .i64 x.m.v.k):=e 10 _ rfl;have e11:w3.cell? ⟨rb+1,11,none⟩=some (.int .u64 x.m.v.n):=e 11 _ rfl;have e12:w3.cell? ⟨rb+1,12,none⟩=some (.string x.m.v.s):=e 12 _ rfl;have e13:w3.cell? ⟨rb+1,13,none⟩=some (.slice s3.a s3.n s3.c):=e 13 _ rfl;have e14:w3.cell? ⟨rb+1,14,none⟩=some (.slice s4.a s4.n s4.c):=e 14 _ rfl;obtain⟨y0,y1,y2,y3,y4,y5,y6,y7,y8,y9,yD,yE,yF,y13,y14,_⟩:=z15 dF;obtain⟨r0,r1,r2,r3,r4,r5,r6,r7,r8,r9,Pe,Pf,OC,Pg,Ph⟩:=KH dF;obtain⟨hs3,aO⟩:=s15 dF (.string x.m.name) (.bool x.m.has) (.int .u64 x.m.al) (.int .u64 x.m.time) (.int .u32 x.m.ty) (.bool x.m.hist) (.bool x.m.trans) (.bool x.m.null) (.slice s1.a s1.n s1.c) (.slice s2.a s2.n s2.c) (.int .i64 x.m.v.k) (.int .u64 x.m.v.n) (.string x.m.v.s) (.slice s3.a s3.n s3.c) (.slice s4.a s4.n s4.c);change Hid _ at hs3;replace aO:=af (hO3.trans' aO (fun x hx=>.inr (by simp at hx;have:=hrb.out;omega)));change Hid _ at hxk;clear hA hO gL dF hO3 hx e;go_wp2_with fail
  obtain⟨g0,g1,g2,g3,g4,g5,g6,g7,g8,g9,g10,g11,g12,g13,g14⟩:=KH hs3.out;exact bodyPost_ret (v:=.tuple #[.agg #[.string x.m.name,.bool x.m.has,.int .u64 x.m.al,.int .u64 x.m.time,.int .u32 x.m.ty,.bool x.m.hist,.bool x.m.trans,.bool x.m.null,.slice s1.a s1.n s1.c,.slice s2.a s2.n s2.c,.int .i64 x.m.v.k,.int .u64 x.m.v.n,.string x.m.v.s,.slice s3.a s3.n s3.c,.slice s4.a s4.n s4.c],.int .i64 0]) (by simp[results,Tryz.results213,go_sem,g0,g1,g2,g3,g4,g5,g6,g7,g8,g9,g10,g11,g12,g13,g14];try rfl) rfl (ZP s1 s2 s3 s4 rfl hxk.out aO.out)
theorem ifm(c:Bool)(x:MT):(if c=true then some x.m else none)=(if c=true then some x else none).map (·.m):=by cases c<;>rfl
theorem ZQ(n:Nat)(B:List Int):O6 (n+1) B=(YT (Cn fun C=>(O6 n C).isSome) B).map (·.m):=by
 rw[O6,YT];cases uH B with
 |none=>rfl
 |some l=>
  simp only;cases l.foldlM bD MT.zero with
  |none=>rfl
  |some x=>exact ifm _ x
theorem FJ: ∀(n:Nat),n<=8->NA (O6 n) (9-n)
 |0,_=>ND _ (fun _=>rfl) _ (by decide) (by decide)
 |n+1,hn=>by
  have ih:=FJ n (by omega);have hT:=Wz _ _ ih;have h1:=NE (Cn fun C=>(O6 n C).isSome) (9-((n+1:Nat):Int)) (by omega) (by rw[show(9-((n+1:Nat):Int))+1=9-(n:Int)by omega];exact hT);intro t W hs hK;rw[ZQ];exact h1 t W hs hK
theorem WA(s:ByteArray)(w:World)(hs:s.size<=4096)(hK:aS w): ∃w1 c,(convert 9 23 (.string s)).run Tryz.prog w=.ok (.slice (some ⟨w.heap.size,0,none⟩) s.size c) w1/\ai [] w w1/\
  Calls Tryz.prog 167 #[.slice (some ⟨w.heap.size,0,none⟩) s.size c] w1 (sQ (O6 8 (ak s)) w):=by
 obtain⟨w0,c,h1,hR,hcp,iE,hsz0⟩:=oJ s w;refine⟨w0,c,h1,iE,?_⟩;clear h1;have hA:=(ai.refl [] w0).alloc (.cells #[.string ⟨#[]⟩,.bool false,.int .u64 0,.int .u64 0,.int .u32 0,.bool false,.bool false,.bool false,.slice none 0 0,.slice none 0 0,.int .i64 0,.int .u64 0,.string ⟨#[]⟩,.slice none 0 0,.slice none 0 0] 109);have gL:=heap_alloc_new w0 (.cells #[.string ⟨#[]⟩,.bool false,.int .u64 0,.int .u64 0,.int .u32 0,.bool false,.bool false,.bool false,.slice none 0 0,.slice none 0 0,.int .i64 0,.int .u64 0,.string ⟨#[]⟩,.slice none 0 0,.slice none 0 0] 109);have hcv:=zk (hR.nil' hA);have cO:=FJ 8 (by omega) (strOfNums (ak s)) (w0.alloc (.cells #[.string ⟨#[]⟩,.bool false,.int .u64 0,.int .u64 0,.int .u32 0,.bool false,.bool false,.bool false,.slice none 0 0,.slice none 0 0,.int .i64 0,.int .u64 0,.string ⟨#[]⟩,.slice none 0 0,.slice none 0 0] 109)) (by rw[ze,dX];exact hs) (hK.own (iE.trans hA));rw[Aj (bU s)]at cO;generalize strOfNums (ak s)=t at*;generalize O6 8 (ak s)=r at*;have aL:=iE.trans hA;have adl:w.heap.size<=w0.heap.size:=iE.size;have cO':Hid (Calls Tryz.prog 213 #[.string t,.int .i64 1] (w0.alloc (.cells #[.string ⟨#[]⟩,.bool false,.int .u64 0,.int .u64 0,.int .u32 0,.bool false,.bool false,.bool false,.slice none 0 0,.slice none 0 0,.int .i64 0,.int .u64 0,.string ⟨#[]⟩,.slice none 0 0,.slice none 0 0] 109)) (sQ r (w0.alloc (.cells #[.string ⟨#[]⟩,.bool false,.int .u64 0,.int .u64 0,.int .u32 0,.bool false,.bool false,.bool false,.slice none 0 0,.slice none 0 0,.int .i64 0,.int .u64 0,.string ⟨#[]⟩,.slice none 0 0,.slice none 0 0] 109)))):=af cO;clear hR hcp hsz0 hK cO hs hA iE;go_enter Tryz.func167,Tryz.ntmps167
 go_wp2_with fail
 refine cO'.out.mono ?_;intro e w3 hp;clear cO';generalize hrb:w0.heap.size=rb at*;change Hid _ at hrb;cases r with
 |none=>
  obtain⟨⟨⟨x1,x2,x3,x4,x5,x6,x7,x8,⟨t1,t2,t3⟩,⟨t4,t5,t6⟩,x9,x10,qQ,⟨t7,t8,t9⟩,⟨t10,t11,t12⟩⟩,ec,aD,rfl⟩,hO⟩:=hp;unfold bW.val bW.cells;simp only;have hO3:=aL.trans hO;have dF:=hO.heap gL (by simp);obtain⟨y0,y1,y2,y3,y4,y5,y6,y7,y8,y9,yD,yE,yF,y13,y14,_⟩:=z15 dF;obtain⟨r0,r1,r2,r3,r4,r5,r6,r7,r8,r9,Pe,Pf,OC,Pg,Ph⟩:=KH dF;obtain⟨hs3,aO⟩:=s15 dF (.string x1) (.bool x2) (.int .u64 x3) (.int .u64 x4) (.int .u32 x5) (.bool x6) (.bool x7) (.bool x8) (.slice t1 t2 t3) (.slice t4 t5 t6) (.int .i64 x9) (.int .u64 x10) (.string qQ) (.slice t7 t8 t9) (.slice t10 t11 t12);change Hid _ at hs3;replace aO:=af (hO3.trans' aO (fun x hx=>.inr (by simp at hx;have:=hrb.out;omega)));change Hid _ at aD;clear hO gL dF hO3 aL;go_wp2_with fail
  obtain⟨g0,g1,g2,g3,g4,g5,g6,g7,g8,g9,g10,g11,g12,g13,g14⟩:=KH hs3.out;exact bodyPost_ret (v:=.tuple #[.agg #[.string x1,.bool x2,.int .u64 x3,.int .u64 x4,.int .u32 x5,.bool x6,.bool x7,.bool x8,.slice t1 t2 t3,.slice t4 t5 t6,.int .i64 x9,.int .u64 x10,.string qQ,.slice t7 t8 t9,.slice t10 t11 t12],.int .i64 ec]) (by simp[results,Tryz.results167,go_sem,g0,g1,g2,g3,g4,g5,g6,g7,g8,g9,g10,g11,g12,g13,g14];try rfl) rfl ⟨⟨⟨x1,x2,x3,x4,x5,x6,x7,x8,⟨t1,t2,t3⟩,⟨t4,t5,t6⟩,x9,x10,qQ,⟨t7,t8,t9⟩,⟨t10,t11,t12⟩⟩,ec,aD.out,rfl⟩,aO.out⟩
 |some m=>
  obtain⟨⟨⟨x1,x2,x3,x4,x5,x6,x7,x8,⟨t1,t2,t3⟩,⟨t4,t5,t6⟩,x9,x10,qQ,⟨t7,t8,t9⟩,⟨t10,t11,t12⟩⟩,hpl,hwf,rfl⟩,hO⟩:=hp;unfold bW.val bW.cells;simp only;have hO3:=aL.trans hO;have dF:=hO.heap gL (by simp);obtain⟨y0,y1,y2,y3,y4,y5,y6,y7,y8,y9,yD,yE,yF,y13,y14,_⟩:=z15 dF;obtain⟨r0,r1,r2,r3,r4,r5,r6,r7,r8,r9,Pe,Pf,OC,Pg,Ph⟩:=KH dF;obtain⟨hs3,aO⟩:=s15 dF (.string x1) (.bool x2) (.int .u64 x3) (.int .u64 x4) (.int .u32 x5) (.bool x6) (.bool x7) (.bool x8) (.slice t1 t2 t3) (.slice t4 t5 t6) (.int .i64 x9) (.int .u64 x10) (.string qQ) (.slice t7 t8 t9) (.slice t10 t11 t12);change Hid _ at hs3;replace aO:=af (hO3.trans' aO (fun x hx=>.inr (by simp at hx;have:=hrb.out;omega)));change Hid _ at hpl hwf;clear hO gL dF hO3 aL;go_wp2_with fail
  obtain⟨g0,g1,g2,g3,g4,g5,g6,g7,g8,g9,g10,g11,g12,g13,g14⟩:=KH hs3.out;exact bodyPost_ret (v:=.tuple #[.agg #[.string x1,.bool x2,.int .u64 x3,.int .u64 x4,.int .u32 x5,.bool x6,.bool x7,.bool x8,.slice t1 t2 t3,.slice t4 t5 t6,.int .i64 x9,.int .u64 x10,.string qQ,.slice t7 t8 t9,.slice t10 t11 t12],.int .i64 0]) (by simp[results,Tryz.results167,go_sem,g0,g1,g2,g3,g4,g5,g6,g7,g8,g9,g10,g11,g12,g13,g14];try rfl) rfl ⟨⟨⟨x1,x2,x3,x4,x5,x6,x7,x8,⟨t1,t2,t3⟩,⟨t4,t5,t6⟩,x9,x10,qQ,⟨t7,t8,t9⟩,⟨t10,t11,t12⟩⟩,hpl.out,hwf.out,rfl⟩,aO.out⟩
end Go.Proofs.YtedcakchekaemaaGreatDoor
