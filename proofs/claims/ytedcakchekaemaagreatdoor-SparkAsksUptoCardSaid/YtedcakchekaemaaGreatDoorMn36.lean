import Derived.Test.YtedcakchekaemaaGreatDoorMn35
set_option maxRecDepth 100000
set_option maxHeartbeats 16000000
set_option linter.all false
namespace Go.Proofs.YtedcakchekaemaaGreatDoor
open Go.RowKit
variable [Kd]
theorem vZ{w:World}{b:Nat}{x0 x1 x2 x3 x4 x5:Value}{T:TypeId}(h:w.heap[b]?=some (.cells #[x0,x1,x2,x3,x4,x5] T (0,0))):
  w.cell? ⟨b,0,none⟩=some x0/\w.cell? ⟨b,1,none⟩=some x1/\w.cell? ⟨b,2,none⟩=some x2/\w.cell? ⟨b,3,none⟩=some x3/\w.cell? ⟨b,4,none⟩=some x4/\w.cell? ⟨b,5,none⟩=some x5:=
 ⟨cell_of_row _ _ 0 _ _ _ h,cell_of_row _ _ 1 _ _ _ h,cell_of_row _ _ 2 _ _ _ h,cell_of_row _ _ 3 _ _ _ h,cell_of_row _ _ 4 _ _ _ h,cell_of_row _ _ 5 _ _ _ h⟩
theorem P7{w:World}{b:Nat}{x0 x1 x2 x3 x4 x5:Value}{T:TypeId}(h:w.heap[b]?=some (.cells #[x0,x1,x2,x3,x4,x5] T (0,0))):
  w.frozen? ⟨b,0,none⟩=false/\w.frozen? ⟨b,1,none⟩=false/\w.frozen? ⟨b,2,none⟩=false/\w.frozen? ⟨b,3,none⟩=false/\w.frozen? ⟨b,4,none⟩=false/\w.frozen? ⟨b,5,none⟩=false/\b<w.heap.size:=
 ⟨frozen_of_row w b 0 _ _ h,frozen_of_row w b 1 _ _ h,frozen_of_row w b 2 _ _ h,frozen_of_row w b 3 _ _ h,frozen_of_row w b 4 _ _ h,frozen_of_row w b 5 _ _ h,aj h⟩
theorem P8{w:World}{b:Nat}{x0 x1 x2 x3 x4 x5:Value}{T:TypeId}(h:w.heap[b]?=some (.cells #[x0,x1,x2,x3,x4,x5] T (0,0)))(u0 u1 u2 u3 u4 u5:Value):
  ((((((w.setCell ⟨b,0,none⟩ u0).setCell ⟨b,1,none⟩ u1).setCell ⟨b,2,none⟩ u2).setCell ⟨b,3,none⟩ u3).setCell ⟨b,4,none⟩ u4).setCell ⟨b,5,none⟩ u5).heap[b]?=some (.cells #[u0,u1,u2,u3,u4,u5] T (0,0))/\ai [b] w ((((((w.setCell ⟨b,0,none⟩ u0).setCell ⟨b,1,none⟩ u1).setCell ⟨b,2,none⟩ u2).setCell ⟨b,3,none⟩ u3).setCell ⟨b,4,none⟩ u4).setCell ⟨b,5,none⟩ u5):=by
 have h0:=heap_setCell_same w b 0 _ T u0 h;have h1:=heap_setCell_same _ b 1 _ T u1 h0;have h2:=heap_setCell_same _ b 2 _ T u2 h1;have h3:=heap_setCell_same _ b 3 _ T u3 h2;have h4:=heap_setCell_same _ b 4 _ T u4 h3;have h5:=heap_setCell_same _ b 5 _ T u5 h4;exact⟨by simpa using h5,(((((((ai.refl [b] w).setCell (.inl (by simp)) _).setCell (.inl (by simp)) _).setCell (.inl (by simp)) _).setCell (.inl (by simp)) _).setCell (.inl (by simp)) _).setCell (.inl (by simp)) _)⟩
def kU(n:Int):Int×Bool:=if n=1\/n=3 then(0,true)else if n=2\/n=4\/n=5 then(2,true)else(0,false)
theorem fA(n:Int)(w:World):Calls Tryz.prog 210 #[.int .i64 n] w fun e w'=>e=.returned (.tuple #[.int .i64 (kU n).1,.bool (kU n).2])/\w=w':=by
 unfold kU;by_cases h1:n=1
 ·subst h1
  go_enter Tryz.func210,Tryz.ntmps210
  go_wp2_with fail
  go_ret2
  exact⟨rfl,rfl⟩
 by_cases h3:n=3
 ·subst h3
  go_enter Tryz.func210,Tryz.ntmps210
  go_wp2_with fail
  go_ret2
  exact⟨rfl,rfl⟩
 rw[if_neg (by simp[h1,h3])];have q1:(n==1)=false:=by simpa using h1
 have q3:(n==3)=false:=by simpa using h3
 by_cases h2:n=2
 ·subst h2
  go_enter Tryz.func210,Tryz.ntmps210
  go_wp2_with fail
  go_ret2
  exact⟨rfl,rfl⟩
 by_cases h4:n=4
 ·subst h4
  go_enter Tryz.func210,Tryz.ntmps210
  go_wp2_with fail
  go_ret2
  exact⟨rfl,rfl⟩
 by_cases h5:n=5
 ·subst h5
  go_enter Tryz.func210,Tryz.ntmps210
  go_wp2_with fail
  go_ret2
  exact⟨rfl,rfl⟩
 rw[if_neg (by simp[h2,h4,h5])];have q2:(n==2)=false:=by simpa using h2
 have q4:(n==4)=false:=by simpa using h4
 have q5:(n==5)=false:=by simpa using h5
 go_enter Tryz.func210,Tryz.ntmps210
 go_wp2_with fail
 go_ret2
 exact⟨rfl,rfl⟩
def SS(p:uP):Array Value:=#[.int .u64 p.t,.bool p.h,.int .u64 p.s,.string p.u,.string p.b,.slice none 0 0]
def SV:uP:=⟨0,false,0,⟨#[]⟩,⟨#[]⟩,[]⟩
theorem tY{w:World}{pb:Nat}{p p':uP}{T:TypeId}(h:w.heap[pb]?=some (.cells (SS p) T (0,0)))(i:Nat)(u:Value)(hx:(SS p).setIfInBounds i u=SS p'):(w.setCell ⟨pb,i,none⟩ u).heap[pb]?=some (.cells (SS p') T (0,0))/\ai [pb] w (w.setCell ⟨pb,i,none⟩ u):=by
 have:=heap_setCell_same w pb i _ T u h;rw[hx]at this;exact⟨this,(ai.refl [pb] w).setCell (.inl (by simp)) _⟩
def kF(l:List bG)(w:World)(e:Ending)(w':World):Prop:=
 match l.all iQ with
 |true=>e=.returned (.tuple #[.agg (SS (l.foldl fJ SV)),.int .i64 0])/\ai [] w w'
 |false=>(∃ec:Int,ec≠0/\e=.returned (.tuple #[.agg #[.int .u64 0,.bool false,.int .u64 0,.string ⟨#[]⟩,.string ⟨#[]⟩,.slice none 0 0],.int .i64 ec]))/\ai [] w w'
theorem nV{l:List bG}{w w':World}{ec:Int}(h:l.all iQ=false)(ay:ec≠0)(ho:ai [] w w'):kF l w (.returned (.tuple #[.agg #[.int .u64 0,.bool false,.int .u64 0,.string ⟨#[]⟩,.string ⟨#[]⟩,.slice none 0 0],.int .i64 ec])) w':=by unfold kF;rw[h];exact⟨⟨ec,ay,rfl⟩,ho⟩
theorem P9{l:List bG}{w w':World}{p:uP}(h:l.all iQ=true)(hp:l.foldl fJ SV=p)(ho:ai [] w w'):kF l w (.returned (.tuple #[.agg #[.int .u64 p.t,.bool p.h,.int .u64 p.s,.string p.u,.string p.b,.slice none 0 0],.int .i64 0])) w':=by subst hp;unfold kF;rw[h];exact⟨rfl,ho⟩
structure YB (w wr:World) (rb pb:Nat) (l:List bG) (k:Nat):Prop where
 own:ai [] w wr
 res:wr.heap[rb]?=some (.cells #[.int .u64 0,.bool false,.int .u64 0,.string ⟨#[]⟩,.string ⟨#[]⟩,.slice none 0 0] 54 (0,0))
 row:wr.heap[pb]?=some (.cells (SS ((l.take k).foldl fJ SV)) 54 (0,0))
 good:(l.take k).all iQ=true
theorem YB.next{w wr w5:World}{rb pb:Nat}{l:List bG}{k:Nat}(h:YB w wr rb pb l k)(hk:k<l.length)(hf:iQ l[k]=true)(ho:ai [pb] wr w5)(hb:w.heap.size<=pb)(Jv:rb≠pb)(hr:w5.heap[pb]?=some (.cells (SS (fJ ((l.take k).foldl fJ SV) l[k])) 54 (0,0))):YB w w5 rb pb l (k+1):=by
 refine⟨h.own.trans' ho (fun x hx=>.inr (by simp at hx;subst hx;exact hb)),ho.heap h.res (by simpa using Jv),?_,?_⟩
 ·rw[List.take_succ_eq_append_getElem hk,List.foldl_append];exact hr
 ·rw[List.take_succ_eq_append_getElem hk,List.all_append,h.good];simp[hf]
theorem GZ(v:Value)(l:List bG)(w:World)(h:aA fL w v l)(hl:l.length<=256):Calls Tryz.prog 165 #[v] w (kF l w):=by
 obtain⟨va,vc,rfl⟩:=h.form;have hA:=((ai.refl [] w).alloc (.cells #[.int .u64 0,.bool false,.int .u64 0,.string ⟨#[]⟩,.string ⟨#[]⟩,.slice none 0 0] 54)).alloc (.cells #[.int .u64 0,.bool false,.int .u64 0,.string ⟨#[]⟩,.string ⟨#[]⟩,.slice none 0 0] 54);have hJ0:YB w ((w.alloc (.cells #[.int .u64 0,.bool false,.int .u64 0,.string ⟨#[]⟩,.string ⟨#[]⟩,.slice none 0 0] 54)).alloc (.cells #[.int .u64 0,.bool false,.int .u64 0,.string ⟨#[]⟩,.string ⟨#[]⟩,.slice none 0 0] 54)) w.heap.size (w.heap.size+1) l 0:=⟨hA,((ai.refl [] _).alloc _).heap (heap_alloc_new w (.cells #[.int .u64 0,.bool false,.int .u64 0,.string ⟨#[]⟩,.string ⟨#[]⟩,.slice none 0 0] 54)) (by simp),heap_alloc2_new w (.cells #[.int .u64 0,.bool false,.int .u64 0,.string ⟨#[]⟩,.string ⟨#[]⟩,.slice none 0 0] 54) (.cells #[.int .u64 0,.bool false,.int .u64 0,.string ⟨#[]⟩,.string ⟨#[]⟩,.slice none 0 0] 54),by simp⟩;have sG:=af h;obtain⟨rb,hrb⟩: ∃rb,rb=w.heap.size:=⟨_,rfl⟩;obtain⟨pb,hpb⟩: ∃pb,pb=rb+1:=⟨_,rfl⟩;have Jv:Hid (rb≠pb/\w.heap.size<=pb/\w.heap.size<=rb):=af ⟨by omega,by omega,by omega⟩;change Hid _ at hJ0;clear h hA;go_enter Tryz.func165,Tryz.ntmps165
 go_wp2_with fail
 rw[<-hrb]at hJ0⊢;rw[<-hpb]at hJ0⊢;generalize((w.alloc (.cells #[.int .u64 0,.bool false,.int .u64 0,.string ⟨#[]⟩,.string ⟨#[]⟩,.slice none 0 0] 54)).alloc (.cells #[.int .u64 0,.bool false,.int .u64 0,.string ⟨#[]⟩,.string ⟨#[]⟩,.slice none 0 0] 54))=wS at*;change Hid _ at hrb hpb;go_loopg[11] l.length (fun gg s11 wr=> ∃k:Nat,k<=l.length/\gg=l.length-k/\s11=.int .i64 k/\Aside (YB w wr rb pb l k))
 case atStart=>exact⟨0,by omega,by omega,rfl,hJ0.out⟩
 case round=>
  obtain⟨k,hk,rfl,rfl,hJ⟩:=hrel;have k0:(0:Int)<=k:=by omega
  by_cases hlt:k<l.length
  ·have k1:(k:Int)<l.length:=by omega
   have hwk:IntKind.i64.wrap ((k:Int)+1)=(k:Int)+1:=IntWalk.i64_in _ (by omega);obtain⟨b1,o1,rfl,c0,c1,c2,c3⟩:=(sG.out.nil' hJ.own).fld hlt;have hnext:=fun w5 hf ho hr=>hJ.next (w5:=w5) hlt hf ho Jv.out.2.1 Jv.out.1 hr
   have hbad:iQ l[k]=false->l.all iQ=false:=fun hh=>by
    rw[List.all_eq_false];exact⟨l[k],List.getElem_mem hlt,by simp[hh]⟩
   have hrow:=hJ.row;generalize(l.take k).foldl fJ SV=p at*;generalize l[k]=f at*;have hA:=(ai.refl [] wr).alloc (.cells (fL f).toArray 100);have BI:=heap_alloc_new wr (.cells (fL f).toArray 100);have fB:=hA.heap hrow (by simp);have aR:=hA.heap hJ.res (by simp);have aB:=hJ.own.trans hA;have hpl:=aj hrow;have hne:wr.heap.size≠pb:=by omega
   obtain⟨n,kd,val,txt⟩:=f;unfold fL at*;simp only at*;change Hid _ at hnext hbad;clear hJ hrow hpl hJ0;go_upto_region 5 with(fail)
   generalize(wr.alloc (.cells #[.int .i64 n,.int .i64 kd,.int .u64 val,.string txt] 100))=w5 at*;generalize wr.heap.size=fb at*;obtain⟨⟨d0,d1,d2,d3⟩,-⟩:=q4 BI;clear c0 c1 c2 c3;have X9:=af (hA.nil (S:=[pb]));change Hid _ at hA;by_cases hn1:n=1
   ·subst hn1
    by_cases hkd:kd=0
    ·subst hkd
     have qk:((0:Int)!=0)=false:=by decide
     obtain⟨EA,Xt⟩:=tY (p':={p with t:=val}) fB 0 (.int .u64 val) rfl;have hnx:=af (hnext.out _ (by simp[iQ]) (X9.out.trans Xt) (by simpa[fJ]using EA));have t0:w5.cell? ⟨pb,0,none⟩=some (.int .u64 p.t):=cell_of_row _ _ 0 _ _ _ fB;have t1:=frozen_of_row w5 pb 0 _ _ fB;clear hnext hbad aR fB BI aB;go_wp2_with fail
     refine(fA 1 w5).mono ?_;rintro e w6 ⟨rfl,rfl⟩;unfold kU;go_wp2_with fail
     go_roundg(l.length-(k+1))
     case measure=>omega
     case rel=>exact⟨k+1,by omega,rfl,by simp,hnx.out⟩
    ·skip
     have qk:(0 !=kd)=true:=by simpa using fun h:(0:Int)=kd=>hkd h.symm
     have aF:=af (hbad.out (by simp[iQ,hkd]));obtain⟨y0,y1,y2,y3,y4,y5,_⟩:=P7 aR;obtain⟨r0,r1,r2,r3,r4,r5⟩:=vZ aR;obtain⟨hs3,aJ⟩:=P8 aR (.int .u64 0) (.bool false) (.int .u64 0) (.string ⟨#[]⟩) (.string ⟨#[]⟩) (.slice none 0 0);change Hid _ at hs3;replace aJ:=af (aB.trans' aJ (fun x hx=>.inr (by simp at hx;subst hx;exact Jv.out.2.2)));clear hnext hbad aR fB BI aB;go_wp2_with fail
     refine(fA 1 w5).mono ?_;rintro e w6 ⟨rfl,rfl⟩;unfold kU;go_wp2_with fail
     obtain⟨g0,g1,g2,g3,g4,g5⟩:=vZ hs3.out;exact bodyPost_ret (v:=.tuple #[.agg #[.int .u64 0,.bool false,.int .u64 0,.string ⟨#[]⟩,.string ⟨#[]⟩,.slice none 0 0],.int .i64 4]) (by simp[results,Tryz.results165,go_sem,g0,g1,g2,g3,g4,g5];try rfl) rfl (nV aF.out (by decide) aJ.out)
   by_cases hn2:n=2
   ·subst hn2
    by_cases hkd:kd=2
    ·subst hkd
     have qk:((2:Int)!=2)=false:=by decide
     have hnx:=af (hnext.out w5 (by simp[iQ]) X9.out (by simpa[fJ]using fB));clear hnext hbad aR fB BI aB;go_wp2_with fail
     refine(fA 2 w5).mono ?_;rintro e w6 ⟨rfl,rfl⟩;unfold kU;go_wp2_with fail
     go_roundg(l.length-(k+1))
     case measure=>omega
     case rel=>exact⟨k+1,by omega,rfl,by simp,hnx.out⟩
    ·skip
     have qk:(2 !=kd)=true:=by simpa using fun h:(2:Int)=kd=>hkd h.symm
     have aF:=af (hbad.out (by simp[iQ,hkd]));obtain⟨y0,y1,y2,y3,y4,y5,_⟩:=P7 aR;obtain⟨r0,r1,r2,r3,r4,r5⟩:=vZ aR;obtain⟨hs3,aJ⟩:=P8 aR (.int .u64 0) (.bool false) (.int .u64 0) (.string ⟨#[]⟩) (.string ⟨#[]⟩) (.slice none 0 0);change Hid _ at hs3;replace aJ:=af (aB.trans' aJ (fun x hx=>.inr (by simp at hx;subst hx;exact Jv.out.2.2)));clear hnext hbad aR fB BI aB;go_wp2_with fail
     refine(fA 2 w5).mono ?_;rintro e w6 ⟨rfl,rfl⟩;unfold kU;go_wp2_with fail
     obtain⟨g0,g1,g2,g3,g4,g5⟩:=vZ hs3.out;exact bodyPost_ret (v:=.tuple #[.agg #[.int .u64 0,.bool false,.int .u64 0,.string ⟨#[]⟩,.string ⟨#[]⟩,.slice none 0 0],.int .i64 4]) (by simp[results,Tryz.results165,go_sem,g0,g1,g2,g3,g4,g5];try rfl) rfl (nV aF.out (by decide) aJ.out)
   by_cases Uf:n=3
   ·subst Uf
    by_cases hkd:kd=0
    ·subst hkd
     have qk:((0:Int)!=0)=false:=by decide
     obtain⟨EA,Xt⟩:=tY (p':={p with h:=true}) fB 1 (.bool true) rfl;obtain⟨MX,ho7⟩:=tY (p':={p with h:=true,s:=val}) EA 2 (.int .u64 val) rfl;have hnx:=af (hnext.out (((w5.setCell ⟨pb,1,none⟩ (.bool true)).setCell ⟨pb,2,none⟩ (.int .u64 val)).drew) (by simp[iQ]) (((X9.out.trans Xt).trans ho7).drew) (by simp only[fJ];exact MX));have t0:w5.cell? ⟨pb,1,none⟩=some (.bool p.h):=cell_of_row _ _ 1 _ _ _ fB;have t1:=frozen_of_row w5 pb 1 _ _ fB;have t2:w5.cell? ⟨pb,2,none⟩=some (.int .u64 p.s):=cell_of_row _ _ 2 _ _ _ fB;have t3:=frozen_of_row w5 pb 2 _ _ fB;clear hnext hbad aR fB BI aB;go_wp2_with fail
     refine(fA 3 w5).mono ?_;rintro e w6 ⟨rfl,rfl⟩;unfold kU;go_wp2_with fail
     go_region
     all_goals
      go_wp2_with fail
      go_roundg(l.length-(k+1))
      case measure=>omega
      case rel=>exact⟨k+1,by omega,rfl,by simp,hnx.out⟩
    ·skip
     have qk:(0 !=kd)=true:=by simpa using fun h:(0:Int)=kd=>hkd h.symm
     have aF:=af (hbad.out (by simp[iQ,hkd]));obtain⟨y0,y1,y2,y3,y4,y5,_⟩:=P7 aR;obtain⟨r0,r1,r2,r3,r4,r5⟩:=vZ aR;obtain⟨hs3,aJ⟩:=P8 aR (.int .u64 0) (.bool false) (.int .u64 0) (.string ⟨#[]⟩) (.string ⟨#[]⟩) (.slice none 0 0);change Hid _ at hs3;replace aJ:=af (aB.trans' aJ (fun x hx=>.inr (by simp at hx;subst hx;exact Jv.out.2.2)));clear hnext hbad aR fB BI aB;go_wp2_with fail
     refine(fA 3 w5).mono ?_;rintro e w6 ⟨rfl,rfl⟩;unfold kU;go_wp2_with fail
     obtain⟨g0,g1,g2,g3,g4,g5⟩:=vZ hs3.out;exact bodyPost_ret (v:=.tuple #[.agg #[.int .u64 0,.bool false,.int .u64 0,.string ⟨#[]⟩,.string ⟨#[]⟩,.slice none 0 0],.int .i64 4]) (by simp[results,Tryz.results165,go_sem,g0,g1,g2,g3,g4,g5];try rfl) rfl (nV aF.out (by decide) aJ.out)
   by_cases Rb:n=4
   ·subst Rb
    by_cases hkd:kd=2
    ·subst hkd
     have qk:((2:Int)!=2)=false:=by decide
     obtain⟨EA,Xt⟩:=tY (p':={p with u:=txt}) fB 3 (.string txt) rfl;have hnx:=af (hnext.out _ (by simp[iQ]) (X9.out.trans Xt) (by simpa[fJ]using EA));have t0:w5.cell? ⟨pb,3,none⟩=some (.string p.u):=cell_of_row _ _ 3 _ _ _ fB;have t1:=frozen_of_row w5 pb 3 _ _ fB;clear hnext hbad aR fB BI aB;go_wp2_with fail
     refine(fA 4 w5).mono ?_;rintro e w6 ⟨rfl,rfl⟩;unfold kU;go_wp2_with fail
     go_roundg(l.length-(k+1))
     case measure=>omega
     case rel=>exact⟨k+1,by omega,rfl,by simp,hnx.out⟩
    ·skip
     have qk:(2 !=kd)=true:=by simpa using fun h:(2:Int)=kd=>hkd h.symm
     have aF:=af (hbad.out (by simp[iQ,hkd]));obtain⟨y0,y1,y2,y3,y4,y5,_⟩:=P7 aR;obtain⟨r0,r1,r2,r3,r4,r5⟩:=vZ aR;obtain⟨hs3,aJ⟩:=P8 aR (.int .u64 0) (.bool false) (.int .u64 0) (.string ⟨#[]⟩) (.string ⟨#[]⟩) (.slice none 0 0);change Hid _ at hs3;replace aJ:=af (aB.trans' aJ (fun x hx=>.inr (by simp at hx;subst hx;exact Jv.out.2.2)));clear hnext hbad aR fB BI aB;go_wp2_with fail
     refine(fA 4 w5).mono ?_;rintro e w6 ⟨rfl,rfl⟩;unfold kU;go_wp2_with fail
     obtain⟨g0,g1,g2,g3,g4,g5⟩:=vZ hs3.out;exact bodyPost_ret (v:=.tuple #[.agg #[.int .u64 0,.bool false,.int .u64 0,.string ⟨#[]⟩,.string ⟨#[]⟩,.slice none 0 0],.int .i64 4]) (by simp[results,Tryz.results165,go_sem,g0,g1,g2,g3,g4,g5];try rfl) rfl (nV aF.out (by decide) aJ.out)
   by_cases M9:n=5
   ·subst M9
    by_cases hkd:kd=2
    ·subst hkd
     have qk:((2:Int)!=2)=false:=by decide
     obtain⟨EA,Xt⟩:=tY (p':={p with b:=txt}) fB 4 (.string txt) rfl;have hnx:=af (hnext.out _ (by simp[iQ]) (X9.out.trans Xt) (by simpa[fJ]using EA));have t0:w5.cell? ⟨pb,4,none⟩=some (.string p.b):=cell_of_row _ _ 4 _ _ _ fB;have t1:=frozen_of_row w5 pb 4 _ _ fB;clear hnext hbad aR fB BI aB;go_wp2_with fail
     refine(fA 5 w5).mono ?_;rintro e w6 ⟨rfl,rfl⟩;unfold kU;go_wp2_with fail
     go_roundg(l.length-(k+1))
     case measure=>omega
     case rel=>exact⟨k+1,by omega,rfl,by simp,hnx.out⟩
    ·skip
     have qk:(2 !=kd)=true:=by simpa using fun h:(2:Int)=kd=>hkd h.symm
     have aF:=af (hbad.out (by simp[iQ,hkd]));obtain⟨y0,y1,y2,y3,y4,y5,_⟩:=P7 aR;obtain⟨r0,r1,r2,r3,r4,r5⟩:=vZ aR;obtain⟨hs3,aJ⟩:=P8 aR (.int .u64 0) (.bool false) (.int .u64 0) (.string ⟨#[]⟩) (.string ⟨#[]⟩) (.slice none 0 0);change Hid _ at hs3;replace aJ:=af (aB.trans' aJ (fun x hx=>.inr (by simp at hx;subst hx;exact Jv.out.2.2)));clear hnext hbad aR fB BI aB;go_wp2_with fail
     refine(fA 5 w5).mono ?_;rintro e w6 ⟨rfl,rfl⟩;unfold kU;go_wp2_with fail
     obtain⟨g0,g1,g2,g3,g4,g5⟩:=vZ hs3.out;exact bodyPost_ret (v:=.tuple #[.agg #[.int .u64 0,.bool false,.int .u64 0,.string ⟨#[]⟩,.string ⟨#[]⟩,.slice none 0 0],.int .i64 4]) (by simp[results,Tryz.results165,go_sem,g0,g1,g2,g3,g4,g5];try rfl) rfl (nV aF.out (by decide) aJ.out)
   have hq1:(n==1)=false:=by simpa using hn1
   have hq2:(n==2)=false:=by simpa using hn2
   have hq3:(n==3)=false:=by simpa using Uf
   have hq4:(n==4)=false:=by simpa using Rb
   have hq5:(n==5)=false:=by simpa using M9
   have hnx:=af (hnext.out w5 (by simp[iQ,hn1,hn2,Uf,Rb,M9]) X9.out (by simpa[fJ,hn1,Uf,Rb,M9]using fB));have cK:=fA n w5;rw[show kU n=(0,false)by simp[kU,hn1,hn2,Uf,Rb,M9]]at cK;replace cK:=af cK;clear hnext hbad aR fB BI aB hn1 hn2 Uf Rb M9;go_wp2_with fail
   refine cK.out.mono ?_;rintro e w6 ⟨rfl,rfl⟩;clear cK;simp only;go_wp2_with fail
   go_roundg(l.length-(k+1))
   case measure=>omega
   case rel=>exact⟨k+1,by omega,rfl,by simp,hnx.out⟩
  ·have k1: ¬(k:Int)<l.length:=by omega
   have hrow:=hJ.row;have hgood:=hJ.good;rw[List.take_of_length_le (by omega)]at hrow hgood;obtain⟨p,hp⟩: ∃p,l.foldl fJ SV=p:=⟨_,rfl⟩;rw[hp]at hrow;unfold SS at hrow;obtain⟨e0,e1,e2,e3,e4,e5⟩:=vZ hrow;obtain⟨y0,y1,y2,y3,y4,y5,_⟩:=P7 hJ.res;obtain⟨r0,r1,r2,r3,r4,r5⟩:=vZ hJ.res;obtain⟨hs3,aJ⟩:=P8 hJ.res (.int .u64 p.t) (.bool p.h) (.int .u64 p.s) (.string p.u) (.string p.b) (.slice none 0 0);change Hid _ at hs3;replace aJ:=af (hJ.own.trans' aJ (fun x hx=>.inr (by simp at hx;subst hx;exact Jv.out.2.2)));change Hid _ at hgood hp;clear hJ hJ0 hrow;go_wp2_with fail
   obtain⟨g0,g1,g2,g3,g4,g5⟩:=vZ hs3.out;exact bodyPost_ret (v:=.tuple #[.agg #[.int .u64 p.t,.bool p.h,.int .u64 p.s,.string p.u,.string p.b,.slice none 0 0],.int .i64 0]) (by simp[results,Tryz.results165,go_sem,g0,g1,g2,g3,g4,g5];try rfl) rfl (P9 hgood.out hp.out aJ.out)
def Ed(r:Option uP)(w:World)(e:Ending)(w':World):Prop:=
 match r with
 |some p=>(∃q:gT,(q.t=p.t/\q.h=p.h/\q.s=p.s/\q.u=p.u/\q.b=p.b/\q.M.map bP.pl=p.M)/\0<=q.s/\e=.returned (.tuple #[q.val,.int .i64 0])/\dR w' q.a q.M/\q.M.length<=64/\ ∀g,(Value.slice q.a q.M.length q.c).ownBlock=some g->w.heap.size<=g)/\ai [] w w'
 |none=>(∃ec:Int,ec≠0/\e=.returned (.tuple #[.agg #[.int .u64 0,.bool false,.int .u64 0,.string ⟨#[]⟩,.string ⟨#[]⟩,.slice none 0 0],.int .i64 ec]))/\ai [] w w'
theorem tZ{r:Option uP}{w w':World}{ec:Int}(h:r=none)(ay:ec≠0)(ho:ai [] w w'):Ed r w (.returned (.tuple #[.agg #[.int .u64 0,.bool false,.int .u64 0,.string ⟨#[]⟩,.string ⟨#[]⟩,.slice none 0 0],.int .i64 ec])) w':=by subst h;exact⟨⟨ec,ay,rfl⟩,ho⟩
theorem Qa{l:List bG}(hf: ∀f∈l,f.Ok): ∀p:uP,0<=p.s->0<=(l.foldl fJ p).s:=by
 induction l with
 |nil=>intro p h;exact h
 |cons f r ih=>
  intro p h;rw[List.foldl_cons];refine ih (fun x hx=>hf x (by simp[hx])) _ ?_;have:=(hf f (by simp)).v0;unfold fJ;split
  ·exact h
  ·split
   ·exact this
   ·split
    ·exact h
    ·split<;>exact h
theorem Qb(l:List bG): ∀p:uP,(l.foldl fJ p).M=p.M:=by
 induction l with
 |nil=>intro p;rfl
 |cons f r ih=>
  intro p;rw[List.foldl_cons,ih];unfold fJ
  repeat' split
  all_goals rfl
theorem G5{A:List bG}{k:Nat}(hk:k<A.length){L:List PM}{R:Option (List PM)}(h:R=(rG (A.drop k)).map (fun r=>L++r)):
  (MV 8 (ak A[k].text)=none->R=none)/\ ∀m,MV 8 (ak A[k].text)=some m->R=(rG (A.drop (k+1))).map (fun r=>(L++[m])++r):=by
 rw[List.drop_eq_getElem_cons hk,rG]at h;refine⟨fun hn=>by rw[h,hn];rfl,fun m hm=>?_⟩;rw[h,hm];cases rG (A.drop (k+1))with
 |none=>rfl
 |some r=>simp
theorem SX{base:Nat}{w:World}{a:Option Addr}{c:Nat}{L:List bP}(h:Sl 109 bP.cells 15 base w (.slice a L.length c) L)(hl:L.length<=64)(hg: ∀x∈L,x.wf):dR w a L:=by
 rcases h.form with⟨h1,h2⟩|⟨g,cap,h1,_,h3⟩
 ·rw[h2];exact bR.empty _ _
 ·cases h1
  exact bR.of_row h3 bP.cells_len (by omega) hg
structure PoJ (A:List bG) (k:Nat) (L:List bP) (R:Option (List PM)):Prop where
 len:L.length=k
 wf: ∀x∈L,x.wf
 now:R=(rG (A.drop k)).map (fun r=>L.map bP.pl++r)
theorem Qc(s:ByteArray)(w:World)(hs:s.size<=140737488351232)(hK:aN w): ∃w1 c,(convert 9 23 (.string s)).run Tryz.prog w=.ok (.slice (some ⟨w.heap.size,0,none⟩) s.size c) w1/\ai [] w w1/\
  Calls Tryz.prog 94 #[.slice (some ⟨w.heap.size,0,none⟩) s.size c] w1 (Ed (N9 (ak s)) w):=by
 obtain⟨w0,c,h1,hR,hcp,gV,hsz0⟩:=nG s w;refine⟨w0,c,h1,gV,?_⟩;clear h1;obtain⟨ok,hok⟩: ∃ok,N9 (ak s)=ok:=⟨_,rfl⟩;rw[hok];unfold N9 at hok;have hA:=(ai.refl [] w0).alloc (.cells #[.int .u64 0,.bool false,.int .u64 0,.string ⟨#[]⟩,.string ⟨#[]⟩,.slice none 0 0] 54);have fU:=heap_alloc_new w0 (.cells #[.int .u64 0,.bool false,.int .u64 0,.string ⟨#[]⟩,.string ⟨#[]⟩,.slice none 0 0] 54);have cW:=af (tH _ _ _ (hR.nil' hA) (fun b hb=>by simp[Value.ownBlock]at hb;simp;omega) hcp (bN s) (by rw[dM];exact hs));have XR:=gV.trans hA;have hwr:Hid (w.heap.size<=w0.heap.size):=af gV.size;have Js:=af hK;clear hR hcp hsz0 hK hs gV;go_enter Tryz.func94,Tryz.ntmps94
 go_wp2_with fail
 refine cW.out.mono ?_;intro e w2 hp;clear cW;generalize hrb:w0.heap.size=rb at*;change Hid _ at hrb;cases hw:sj (ak s)with
 |none=>
  rw[hw]at hp hok;simp only at hok;obtain⟨⟨ec,ay,rfl⟩,hO2⟩:=hp;have aF:=af hok.symm;have hOr:=XR.trans hO2;have hres:=hO2.heap fU (by simp;try omega);have q:(ec !=0)=true:=by simpa using ay
  change Hid _ at ay;obtain⟨u0,u1,u2,u3,u4,u5,_⟩:=P7 hres;obtain⟨r0,r1,r2,r3,r4,r5⟩:=vZ hres;obtain⟨hs3,aJ⟩:=P8 hres (.int .u64 0) (.bool false) (.int .u64 0) (.string ⟨#[]⟩) (.string ⟨#[]⟩) (.slice none 0 0);change Hid _ at hs3;replace aJ:=af (hOr.trans' aJ (fun x hx=>.inr (by simp at hx;subst hx;exact hwr.out)));clear hres hOr hA XR fU hO2 hok hw;go_wp2_with fail
  obtain⟨g0,g1,g2,g3,g4,g5⟩:=vZ hs3.out;exact bodyPost_ret (v:=.tuple #[.agg #[.int .u64 0,.bool false,.int .u64 0,.string ⟨#[]⟩,.string ⟨#[]⟩,.slice none 0 0],.int .i64 ec]) (by simp[results,Tryz.results94,go_sem,g0,g1,g2,g3,g4,g5];try rfl) rfl (tZ aF.out ay.out aJ.out)
 |some l=>
  rw[hw]at hp hok;simp only at hok;obtain⟨⟨aT,rfl,hS⟩,hO2⟩:=hp;obtain⟨hll,hf⟩:=mG (bN s) hw;have sG:=hS.reads dX;have cP:=GZ aT l w2 sG hll;have aci:=af sG;have Xu:=af (XR.trans hO2);have hres2:=af (hO2.heap fU (by simp;try omega));obtain⟨va,vc,rfl⟩:=hS.sl;have hs0:=af (Qa hf SV (by decide));have hM0:=af (Qb l SV);have hfA:=af (fun f hf'=>((tJ hf 2) f hf').t);unfold kF at cP;clear hw hS hA fU XR hO2 sG hf;cases hall:l.all iQ with
  |false=>
   rw[hall]at cP hok;simp only[if_true]at hok;have aF:=af hok.symm;replace cP:=af cP;clear hok hall;go_wp2_with fail
   refine cP.out.mono ?_;rintro e w3 ⟨⟨ec,ay,rfl⟩,hO3⟩;have hOr:=(Xu.out.trans hO3).alloc (.cells #[.int .u64 0,.bool false,.int .u64 0,.string ⟨#[]⟩,.string ⟨#[]⟩,.slice none 0 0] 54);have hres:=((ai.refl [] w3).alloc (.cells #[.int .u64 0,.bool false,.int .u64 0,.string ⟨#[]⟩,.string ⟨#[]⟩,.slice none 0 0] 54)).heap (hO3.heap hres2.out (by simp)) (by simp);have q:(ec !=0)=true:=by simpa using ay
   change Hid _ at ay;clear cP hO3;go_upto_region 5 with(fail)
   generalize(w3.alloc (.cells #[.int .u64 0,.bool false,.int .u64 0,.string ⟨#[]⟩,.string ⟨#[]⟩,.slice none 0 0] 54))=w4 at*;generalize w3.heap.size=pb at*;obtain⟨u0,u1,u2,u3,u4,u5,_⟩:=P7 hres;obtain⟨r0,r1,r2,r3,r4,r5⟩:=vZ hres;obtain⟨hs3,aJ⟩:=P8 hres (.int .u64 0) (.bool false) (.int .u64 0) (.string ⟨#[]⟩) (.string ⟨#[]⟩) (.slice none 0 0);change Hid _ at hs3;replace aJ:=af (hOr.trans' aJ (fun x hx=>.inr (by simp at hx;subst hx;exact hwr.out)));clear hres hOr;go_wp2_with fail
   obtain⟨g0,g1,g2,g3,g4,g5⟩:=vZ hs3.out;exact bodyPost_ret (v:=.tuple #[.agg #[.int .u64 0,.bool false,.int .u64 0,.string ⟨#[]⟩,.string ⟨#[]⟩,.slice none 0 0],.int .i64 ec]) (by simp[results,Tryz.results94,go_sem,g0,g1,g2,g3,g4,g5];try rfl) rfl (tZ aF.out ay.out aJ.out)
  |true=>
   rw[hall]at cP hok;simp only[Bool.true_eq_false,if_false]at hok;generalize hpp:l.foldl fJ SV=p at*;have hok2:(if 64<(aX l 2).length then none else(rG (aX l 2)).map fun M=>{p with M:=M})=ok:=by rw[<-hok,<-hpp];rfl
   replace cP:=af cP;clear hok hall hpp;unfold SS at cP;go_wp2_with fail
   refine cP.out.mono ?_;rintro e w3 ⟨rfl,hO3⟩;have hO4:=af ((Xu.out.trans hO3).alloc (.cells #[.int .u64 p.t,.bool p.h,.int .u64 p.s,.string p.u,.string p.b,.slice none 0 0] 54));have vD:=(ai.refl [] w3).alloc (.cells #[.int .u64 p.t,.bool p.h,.int .u64 p.s,.string p.u,.string p.b,.slice none 0 0] 54);have rP:=af (vD.heap (hO3.heap hres2.out (by simp)) (by simp));have hpb:=af (heap_alloc_new w3 (.cells #[.int .u64 p.t,.bool p.h,.int .u64 p.s,.string p.u,.string p.b,.slice none 0 0] 54));have cA:=af (qf _ l 2 _ (aci.out.nil' (hO3.trans vD)) hll);have hwp:w.heap.size<=w3.heap.size:=Nat.le_trans Xu.out.size hO3.size;have Jv:rb<w3.heap.size:=aj (hO3.heap hres2.out (by simp));change Hid _ at hwp Jv;clear cP hO3 vD;go_upto_region 7 with(fail)
   generalize(w3.alloc (.cells #[.int .u64 p.t,.bool p.h,.int .u64 p.s,.string p.u,.string p.b,.slice none 0 0] 54))=w4 at*;generalize w3.heap.size=pb at*;go_wp2_with fail
   refine cA.out.mono ?_;rintro e w5 ⟨Jl,rfl,hSA,aB⟩;generalize Ih:aX l 2=A at*;have hvA: ∀g,Jl.ownBlock=some g->g<w5.heap.size/\g≠pb:=fun g hg=>by
    have h1:=hSA.block hg;have h2:=aj hpb.out;exact⟨h1.2,by omega⟩
   have sM:=af (hSA.reads dX);have aR:=aB.heap rP.out (by simp);have UJ:=aB.heap hpb.out (by simp);have QV:=hO4.out.trans aB;obtain⟨na,nc,rfl⟩:=hSA.sl;change Hid _ at hvA;clear cA hSA aB Ih hpb rP;by_cases h64:64<A.length
   ·rw[if_pos h64]at hok2
    have aF:=af hok2.symm;have q64:(64:Int)<A.length:=by omega
    have hres:=aR;have hOr:=QV;obtain⟨u0,u1,u2,u3,u4,u5,_⟩:=P7 hres;obtain⟨r0,r1,r2,r3,r4,r5⟩:=vZ hres;obtain⟨hs3,aJ⟩:=P8 hres (.int .u64 0) (.bool false) (.int .u64 0) (.string ⟨#[]⟩) (.string ⟨#[]⟩) (.slice none 0 0);change Hid _ at hs3;replace aJ:=af (hOr.trans' aJ (fun x hx=>.inr (by simp at hx;subst hx;exact hwr.out)));clear hres hOr hok2 h64 aR QV UJ;go_wp2_with fail
    obtain⟨g0,g1,g2,g3,g4,g5⟩:=vZ hs3.out;exact bodyPost_ret (v:=.tuple #[.agg #[.int .u64 0,.bool false,.int .u64 0,.string ⟨#[]⟩,.string ⟨#[]⟩,.slice none 0 0],.int .i64 6]) (by simp[results,Tryz.results94,go_sem,g0,g1,g2,g3,g4,g5];try rfl) rfl (tZ aF.out (by decide) aJ.out)
   rw[if_neg h64]at hok2;have q64: ¬(64:Int)<A.length:=by omega
   obtain⟨R,hRR⟩: ∃R,rG A=R:=⟨_,rfl⟩;rw[hRR]at hok2;have hlp:pb<w5.heap.size:=aj UJ;have hJ0:iT 109 bP.cells 15 w5 w5 pb #[.int .u64 p.t,.bool p.h,.int .u64 p.s,.string p.u,.string p.b,.slice none 0 0] 54 5 (.slice none 0 0) ([]:List bP):=⟨ai.refl _ _,UJ,hlp,by simp,Sl.nil _ _ _⟩;have vE:PoJ A 0 [] R:=⟨rfl,by simp,by rw[List.drop_zero,hRR];cases R<;>simp⟩;have Xv:=af (Nat.not_lt.1 h64);change Hid _ at hJ0 vE hok2;have ack:=af QV.size;have acn:Hid (rb<w5.heap.size):=af (aj aR);have aco:Hid (∀W,ai [pb] w5 W->ai [] w W/\W.heap[rb]?=some (.cells #[.int .u64 0,.bool false,.int .u64 0,.string ⟨#[]⟩,.string ⟨#[]⟩,.slice none 0 0] 54 (0,0))):=af fun W h=>⟨QV.trans' h (fun x hx=>.inr (by simp at hx;subst hx;exact hwp.out)),h.heap aR (by have:=Jv.out;simp;omega)⟩
   clear hRR hlp h64 UJ aR QV;go_wp2_with fail
   go_loopg[38] A.length (fun gg s38 wr=> ∃(k:Nat) (v:Value) (L:List bP),k<=A.length/\gg=A.length-k/\s38=.int .i64 k/\Aside (iT 109 bP.cells 15 w5 wr pb #[.int .u64 p.t,.bool p.h,.int .u64 p.s,.string p.u,.string p.b,.slice none 0 0] 54 5 v L/\PoJ A k L R))
   case atStart=>exact⟨0,_,[],by omega,by omega,rfl,hJ0.out,vE.out⟩
   case round=>
    obtain⟨k,v,L,hk,rfl,rfl,hJ,hP⟩:=hrel;have k0:(0:Int)<=k:=by omega
    obtain⟨ua,uc,rfl⟩:=hJ.r.sl;obtain⟨ZU,Ap⟩:=aco.out wr hJ.own;by_cases hlt:k<A.length
    ·have k1:(k:Int)<A.length:=by omega
     have hwk:IntKind.i64.wrap ((k:Int)+1)=(k:Int)+1:=IntWalk.i64_in _ (by have:=Xv.out;omega);obtain⟨b1,o1,rfl,c0,c1,c2,c3⟩:=(sM.out.own hJ.own (fun g hg=>by simpa using(hvA.out g hg).2)).fld hlt;have hsz:=hfA.out A[k] (List.getElem_mem hlt);obtain⟨QW,QX⟩:=G5 hlt hP.now;generalize A[k]=f at*;have EB:=(ai.refl [] wr).alloc (.cells (fL f).toArray 100);have BI:=heap_alloc_new wr (.cells (fL f).toArray 100);obtain⟨w6,c6,hcv,bI,cM⟩:=SQ f.text (wr.alloc (.cells (fL f).toArray 100)) hsz (Js.out.own (ZU.trans EB));have hLk:L.length<=63:=by have:=hP.len;have:=Xv.out;omega
     have hl1:=af (show(L.length+1)*176<=140737488355328 by omega);have hl2:=af (show L.length+1<=maxLen by unfold maxLen;omega);obtain⟨n,kd,val,txt⟩:=f;unfold fL at*;simp only at*;obtain⟨⟨d0,d1,d2,d3⟩,-⟩:=q4 BI;have Uw:=af (hJ.nil' EB);have QY:=EB.heap Ap (by simp);have Xw:=ZU.trans EB;have ME:=af hP.len;have hPw:=af hP.wf;change Hid _ at QW QX;replace cM:=af cM;clear hJ hP ZU Ap hJ0 vE EB bI hLk BI;go_upto_region 13 with(fail)
     generalize(wr.alloc (.cells #[.int .i64 n,.int .i64 kd,.int .u64 val,.string txt] 100))=w7 at*;generalize wr.heap.size=fb at*;clear c0 c1 c2 c3;go_wp2_with fail
     refine cM.out.mono ?_;intro e w8 Ri;clear hcv cM;cases hm:MV 8 (ak txt)with
     |none=>
      rw[hm]at Ri;obtain⟨⟨⟨x1,x2,x3,x4,x5,x6,x7,x8,⟨y1,y2,y3⟩,⟨y4,y5,y6⟩,x9,x10,pz,⟨y7,y8,y9⟩,⟨wK,wL,wM⟩⟩,ec,ay,rfl⟩,iV⟩:=Ri;unfold bP.val bP.cells;simp only;have aF:ok=none:=by
       have:=hok2.out;rw[QW.out hm]at this;exact this.symm
      change Hid _ at aF;have hOr:=(Xw.trans iV).alloc (.cells #[.string x1,.bool x2,.int .u64 x3,.int .u64 x4,.int .u32 x5,.bool x6,.bool x7,.bool x8,.slice y1 y2 y3,.slice y4 y5 y6,.int .i64 x9,.int .u64 x10,.string pz,.slice y7 y8 y9,.slice wK wL wM] 109);have hres:=((ai.refl [] w8).alloc (.cells #[.string x1,.bool x2,.int .u64 x3,.int .u64 x4,.int .u32 x5,.bool x6,.bool x7,.bool x8,.slice y1 y2 y3,.slice y4 y5 y6,.int .i64 x9,.int .u64 x10,.string pz,.slice y7 y8 y9,.slice wK wL wM] 109)).heap (iV.heap QY (by simp)) (by simp);have q:(ec !=0)=true:=by simpa using ay
      change Hid _ at ay;clear QW QX QY Xw iV hm d0 d1 d2 d3 Uw;go_upto_region 14 with(fail)
      generalize(w8.alloc (.cells #[.string x1,.bool x2,.int .u64 x3,.int .u64 x4,.int .u32 x5,.bool x6,.bool x7,.bool x8,.slice y1 y2 y3,.slice y4 y5 y6,.int .i64 x9,.int .u64 x10,.string pz,.slice y7 y8 y9,.slice wK wL wM] 109))=w9 at*;generalize w8.heap.size=qb at*;obtain⟨u0,u1,u2,u3,u4,u5,_⟩:=P7 hres;obtain⟨r0,r1,r2,r3,r4,r5⟩:=vZ hres;obtain⟨hs3,aJ⟩:=P8 hres (.int .u64 0) (.bool false) (.int .u64 0) (.string ⟨#[]⟩) (.string ⟨#[]⟩) (.slice none 0 0);change Hid _ at hs3;replace aJ:=af (hOr.trans' aJ (fun x hx=>.inr (by simp at hx;subst hx;exact hwr.out)));clear hres hOr;go_wp2_with fail
      obtain⟨g0,g1,g2,g3,g4,g5⟩:=vZ hs3.out;exact bodyPost_ret (v:=.tuple #[.agg #[.int .u64 0,.bool false,.int .u64 0,.string ⟨#[]⟩,.string ⟨#[]⟩,.slice none 0 0],.int .i64 ec]) (by simp[results,Tryz.results94,go_sem,g0,g1,g2,g3,g4,g5];try rfl) rfl (tZ aF.out ay.out aJ.out)
     |some m=>
      rw[hm]at Ri;obtain⟨⟨⟨x1,x2,x3,x4,x5,x6,x7,x8,⟨y1,y2,y3⟩,⟨y4,y5,y6⟩,x9,x10,pz,⟨y7,y8,y9⟩,⟨wK,wL,wM⟩⟩,hpl,hwf,rfl⟩,iV⟩:=Ri;unfold bP.val bP.cells;simp only;have hst:=af (QX.out m hm);have hA9:=(ai.refl [] w8).alloc (.cells #[.string x1,.bool x2,.int .u64 x3,.int .u64 x4,.int .u32 x5,.bool x6,.bool x7,.bool x8,.slice y1 y2 y3,.slice y4 y5 y6,.int .i64 x9,.int .u64 x10,.string pz,.slice y7 y8 y9,.slice wK wL wM] 109);have Xi:=(Uw.out.nil' iV).nil' hA9;have hq9:=heap_alloc_new w8 (.cells #[.string x1,.bool x2,.int .u64 x3,.int .u64 x4,.int .u32 x5,.bool x6,.bool x7,.bool x8,.slice y1 y2 y3,.slice y4 y5 y6,.int .i64 x9,.int .u64 x10,.string pz,.slice y7 y8 y9,.slice wK wL wM] 109);change Hid _ at hpl hwf;clear QW QX QY Xw iV hm d0 d1 d2 d3 Uw hA9;go_upto_region 14 with(fail)
      generalize(w8.alloc (.cells #[.string x1,.bool x2,.int .u64 x3,.int .u64 x4,.int .u32 x5,.bool x6,.bool x7,.bool x8,.slice y1 y2 y3,.slice y4 y5 y6,.int .i64 x9,.int .u64 x10,.string pz,.slice y7 y8 y9,.slice wK wL wM] 109))=w9 at*;generalize w8.heap.size=qb at*;obtain⟨j5,_⟩:=Xi.cell;obtain⟨a0,a1,a2,a3,a4,a5,a6,a7,a8,a9,Ii,Ij,a12,a13,a14⟩:=IZ hq9;have Xx:=af (Xi.nil' ((ai.refl [] w9).alloc (.cells #[.string x1,.bool x2,.int .u64 x3,.int .u64 x4,.int .u32 x5,.bool x6,.bool x7,.bool x8,.slice y1 y2 y3,.slice y4 y5 y6,.int .i64 x9,.int .u64 x10,.string pz,.slice y7 y8 y9,.slice wK wL wM] 109)));have mX:=af (aA.new (enc:=bP.cells) (T:=109) w9 ⟨x1,x2,x3,x4,x5,x6,x7,x8,⟨y1,y2,y3⟩,⟨y4,y5,y6⟩,x9,x10,pz,⟨y7,y8,y9⟩,⟨wK,wL,wM⟩⟩ 1);simp only[bP.cells]at mX;clear Xi hq9;go_wp2_with(at_builtin;refine aO rfl (.tmp 54) (.tmp 56) rfl Jd (jy _) rfl Xx.out.bare rfl mX.out (by have hq:=hl1.out;simp only[List.length_singleton];exact hq) (by have hq:=hl2.out;simp only[List.length_singleton];exact hq) ?_;intro va9 Vn BK _ _ ZV ZW;obtain⟨aa,ca9,rfl⟩:=BK.sl;obtain⟨⟨kC,f5⟩,Xy⟩:=Xx.out.add (Xx.out.up BK ZV) ZW;replace Xy:=af Xy;clear BK ZV ZW)
      go_roundg(A.length-(k+1))
      case measure=>omega
      case rel=>
       refine⟨k+1,_,L++[⟨x1,x2,x3,x4,x5,x6,x7,x8,⟨y1,y2,y3⟩,⟨y4,y5,y6⟩,x9,x10,pz,⟨y7,y8,y9⟩,⟨wK,wL,wM⟩⟩],by omega,rfl,by simp,by have hh:=Xy.out;rw[List.length_append]at hh;exact hh,by simp[ME.out],fun y hy=>?_,?_⟩
       ·rcases List.mem_append.1 hy with h|h
        ·exact hPw.out y h
        ·rw[List.mem_singleton]at h;subst h;exact hwf.out
       ·have:=hst.out
        rw[<-hpl.out]at this;simpa using this
    ·have k1: ¬(k:Int)<A.length:=by omega
     have ru:=hP.now;rw[List.drop_eq_nil_of_le (by omega)]at ru;have iU:ok=some {p with M:=L.map bP.pl}:=by
      rw[<-hok2.out,ru];simp[rG]
     have UK:L.length<=64:=by have:=hP.len;have:=Xv.out;omega
     have hwf:=hP.wf;have nZ:=hJ.r;have hrow:=hJ.row;have hbg:=fun g hg=>(hJ.r.block (g:=g) hg).1
     simp only[List.setIfInBounds_toArray,List.set_cons_succ,List.set_cons_zero]at hrow;obtain⟨e0,e1,e2,e3,e4,e5⟩:=vZ hrow;obtain⟨u0,u1,u2,u3,u4,u5,_⟩:=P7 Ap;obtain⟨r0,r1,r2,r3,r4,r5⟩:=vZ Ap;obtain⟨hs3,aJ⟩:=P8 Ap (.int .u64 p.t) (.bool p.h) (.int .u64 p.s) (.string p.u) (.string p.b) (.slice ua L.length uc);have ZX:=af (SX (nZ.own aJ (fun g hg=>by have h1:=hbg g hg;have h2:=acn.out;simp;omega)) UK hwf);change Hid _ at hs3;replace aJ:=af (ZU.trans' aJ (fun x hx=>.inr (by simp at hx;subst hx;exact hwr.out)));change Hid _ at hbg iU UK;generalize XZ:L.length=nL at*;change Hid _ at XZ;clear hJ hP hJ0 vE hrow nZ ZU Ap ru hwf hok2;go_wp2_with fail
     obtain⟨g0,g1,g2,g3,g4,g5⟩:=vZ hs3.out;refine bodyPost_ret (v:=.tuple #[.agg #[.int .u64 p.t,.bool p.h,.int .u64 p.s,.string p.u,.string p.b,.slice ua nL uc],.int .i64 0]) (by simp[results,Tryz.results94,go_sem,g0,g1,g2,g3,g4,g5];try rfl) rfl ?_;have acp:=XZ.out;subst acp;rw[iU.out];exact⟨⟨⟨p.t,p.h,p.s,p.u,p.b,ua,L,uc⟩,⟨rfl,rfl,rfl,rfl,rfl,rfl⟩,hs0.out,rfl,ZX.out,UK.out,fun g hg=>Nat.le_trans ack.out (hbg.out g hg)⟩,aJ.out⟩
end Go.Proofs.YtedcakchekaemaaGreatDoor
