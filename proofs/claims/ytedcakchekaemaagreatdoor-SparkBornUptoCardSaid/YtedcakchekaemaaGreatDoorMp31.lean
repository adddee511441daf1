/- Contracts of the program, part 31. -/
import Derived.Test.YtedcakchekaemaaGreatDoorMp29
import Derived.Test.YtedcakchekaemaaGreatDoorMp28
import Derived.Test.YtedcakchekaemaaGreatDoorShelfNv
set_option maxRecDepth 100000
set_option maxHeartbeats 16000000
set_option linter.all false
namespace Go.Proofs.YtedcakchekaemaaGreatDoor
open Go.RowKit
variable [Kd]
theorem xV{w:World}{b:Nat}{x0 x1 x2 x3 x4 x5:Value}{T:TypeId}(h:w.heap[b]?=some (.cells #[x0,x1,x2,x3,x4,x5] T (0,0))):
  w.cell? ⟨b,0,none⟩=some x0/\w.cell? ⟨b,1,none⟩=some x1/\w.cell? ⟨b,2,none⟩=some x2/\w.cell? ⟨b,3,none⟩=some x3/\w.cell? ⟨b,4,none⟩=some x4/\w.cell? ⟨b,5,none⟩=some x5:=
 ⟨cell_of_row _ _ 0 _ _ _ h,cell_of_row _ _ 1 _ _ _ h,cell_of_row _ _ 2 _ _ _ h,cell_of_row _ _ 3 _ _ _ h,cell_of_row _ _ 4 _ _ _ h,cell_of_row _ _ 5 _ _ _ h⟩
theorem R8{w:World}{b:Nat}{x0 x1 x2 x3 x4 x5:Value}{T:TypeId}(h:w.heap[b]?=some (.cells #[x0,x1,x2,x3,x4,x5] T (0,0))):
  w.frozen? ⟨b,0,none⟩=false/\w.frozen? ⟨b,1,none⟩=false/\w.frozen? ⟨b,2,none⟩=false/\w.frozen? ⟨b,3,none⟩=false/\w.frozen? ⟨b,4,none⟩=false/\w.frozen? ⟨b,5,none⟩=false/\b<w.heap.size:=
 ⟨frozen_of_row w b 0 _ _ h,frozen_of_row w b 1 _ _ h,frozen_of_row w b 2 _ _ h,frozen_of_row w b 3 _ _ h,frozen_of_row w b 4 _ _ h,frozen_of_row w b 5 _ _ h,aj h⟩
theorem R9{w:World}{b:Nat}{x0 x1 x2 x3 x4 x5:Value}{T:TypeId}(h:w.heap[b]?=some (.cells #[x0,x1,x2,x3,x4,x5] T (0,0)))(u0 u1 u2 u3 u4 u5:Value):
  ((((((w.setCell ⟨b,0,none⟩ u0).setCell ⟨b,1,none⟩ u1).setCell ⟨b,2,none⟩ u2).setCell ⟨b,3,none⟩ u3).setCell ⟨b,4,none⟩ u4).setCell ⟨b,5,none⟩ u5).heap[b]?=some (.cells #[u0,u1,u2,u3,u4,u5] T (0,0))/\ai [b] w ((((((w.setCell ⟨b,0,none⟩ u0).setCell ⟨b,1,none⟩ u1).setCell ⟨b,2,none⟩ u2).setCell ⟨b,3,none⟩ u3).setCell ⟨b,4,none⟩ u4).setCell ⟨b,5,none⟩ u5):=by
 have h0:=heap_setCell_same w b 0 _ T u0 h;have h1:=heap_setCell_same _ b 1 _ T u1 h0;have h2:=heap_setCell_same _ b 2 _ T u2 h1;have h3:=heap_setCell_same _ b 3 _ T u3 h2;have h4:=heap_setCell_same _ b 4 _ T u4 h3;have h5:=heap_setCell_same _ b 5 _ T u5 h4;exact⟨by simpa using h5,(((((((ai.refl [b] w).setCell (.inl (by simp)) _).setCell (.inl (by simp)) _).setCell (.inl (by simp)) _).setCell (.inl (by simp)) _).setCell (.inl (by simp)) _).setCell (.inl (by simp)) _)⟩
def mg(n:Int):Int×Bool:=if n=1\/n=3 then(0,true)else if n=2\/n=4\/n=5 then(2,true)else(0,false)
theorem fQ(n:Int)(w:World):Calls Tryz.prog 210 #[.int .i64 n] w fun e w'=>e=.returned (.tuple #[.int .i64 (mg n).1,.bool (mg n).2])/\w=w':=by
 unfold mg;by_cases h1:n=1
 ·subst h1
  go_enter Tryz.func210,Tryz.ntmps210
  go_wp2_with fail
  go_ret2
  exact⟨rfl,rfl⟩
 by_cases h3:n=3
 ·subst h3
  go_enter Tryz.func210,Tryz.ntmps210
  go_wp2_with fail
  go_ret2
  exact⟨rfl,rfl⟩
 rw[if_neg (by simp[h1,h3])];have q1:(n==1)=false:=by simpa using h1
 have q3:(n==3)=false:=by simpa using h3
 by_cases h2:n=2
 ·subst h2
  go_enter Tryz.func210,Tryz.ntmps210
  go_wp2_with fail
  go_ret2
  exact⟨rfl,rfl⟩
 by_cases h4:n=4
 ·subst h4
  go_enter Tryz.func210,Tryz.ntmps210
  go_wp2_with fail
  go_ret2
  exact⟨rfl,rfl⟩
 by_cases h5:n=5
 ·subst h5
  go_enter Tryz.func210,Tryz.ntmps210
  go_wp2_with fail
  go_ret2
  exact⟨rfl,rfl⟩
 rw[if_neg (by simp[h2,h4,h5])];have q2:(n==2)=false:=by simpa using h2
 have q4:(n==4)=false:=by simpa using h4
 have q5:(n==5)=false:=by simpa using h5
 go_enter Tryz.func210,Tryz.ntmps210
 go_wp2_with fail
 go_ret2
 exact⟨rfl,rfl⟩
def WB(p:wN):Array Value:=#[.int .u64 p.t,.bool p.h,.int .u64 p.s,.string p.u,.string p.b,.slice none 0 0]
def WC:wN:=⟨0,false,0,⟨#[]⟩,⟨#[]⟩,[]⟩
theorem vS{w:World}{pb:Nat}{p p':wN}{T:TypeId}(h:w.heap[pb]?=some (.cells (WB p) T (0,0)))(i:Nat)(u:Value)(hx:(WB p).setIfInBounds i u=WB p'):(w.setCell ⟨pb,i,none⟩ u).heap[pb]?=some (.cells (WB p') T (0,0))/\ai [pb] w (w.setCell ⟨pb,i,none⟩ u):=by
 have:=heap_setCell_same w pb i _ T u h;rw[hx]at this;exact⟨this,(ai.refl [pb] w).setCell (.inl (by simp)) _⟩
def lI(l:List bN)(w:World)(e:Ending)(w':World):Prop:=
 match l.all ji with
 |true=>e=.returned (.tuple #[.agg (WB (l.foldl gD WC)),.int .i64 0])/\ai [] w w'
 |false=>(∃ec:Int,ec≠0/\e=.returned (.tuple #[.agg #[.int .u64 0,.bool false,.int .u64 0,.string ⟨#[]⟩,.string ⟨#[]⟩,.slice none 0 0],.int .i64 ec]))/\ai [] w w'
theorem oZ{l:List bN}{w w':World}{ec:Int}(h:l.all ji=false)(aD:ec≠0)(ho:ai [] w w'):lI l w (.returned (.tuple #[.agg #[.int .u64 0,.bool false,.int .u64 0,.string ⟨#[]⟩,.string ⟨#[]⟩,.slice none 0 0],.int .i64 ec])) w':=by unfold lI;rw[h];exact⟨⟨ec,aD,rfl⟩,ho⟩
theorem Sb{l:List bN}{w w':World}{p:wN}(h:l.all ji=true)(hp:l.foldl gD WC=p)(ho:ai [] w w'):lI l w (.returned (.tuple #[.agg #[.int .u64 p.t,.bool p.h,.int .u64 p.s,.string p.u,.string p.b,.slice none 0 0],.int .i64 0])) w':=by subst hp;unfold lI;rw[h];exact⟨rfl,ho⟩
structure PlJ (w wr:World) (rb pb:Nat) (l:List bN) (k:Nat):Prop where
 own:ai [] w wr
 res:wr.heap[rb]?=some (.cells #[.int .u64 0,.bool false,.int .u64 0,.string ⟨#[]⟩,.string ⟨#[]⟩,.slice none 0 0] 54 (0,0))
 row:wr.heap[pb]?=some (.cells (WB ((l.take k).foldl gD WC)) 54 (0,0))
 good:(l.take k).all ji=true
theorem PlJ.next{w wr w5:World}{rb pb:Nat}{l:List bN}{k:Nat}(h:PlJ w wr rb pb l k)(hk:k<l.length)(hf:ji l[k]=true)(ho:ai [pb] wr w5)(hb:w.heap.size<=pb)(Le:rb≠pb)(hr:w5.heap[pb]?=some (.cells (WB (gD ((l.take k).foldl gD WC) l[k])) 54 (0,0))):PlJ w w5 rb pb l (k+1):=by
 refine⟨h.own.trans' ho (fun x hx=>.inr (by simp at hx;subst hx;exact hb)),ho.heap h.res (by simpa using Le),?_,?_⟩
 ·rw[List.take_succ_eq_append_getElem hk,List.foldl_append];exact hr
 ·rw[List.take_succ_eq_append_getElem hk,List.all_append,h.good];simp[hf]
theorem Jr(v:Value)(l:List bN)(w:World)(h:aG fL w v l)(hl:l.length<=256):Calls Tryz.prog 165 #[v] w (lI l w):=by
 obtain⟨va,vc,rfl⟩:=h.form;have hA:=((ai.refl [] w).alloc (.cells #[.int .u64 0,.bool false,.int .u64 0,.string ⟨#[]⟩,.string ⟨#[]⟩,.slice none 0 0] 54)).alloc (.cells #[.int .u64 0,.bool false,.int .u64 0,.string ⟨#[]⟩,.string ⟨#[]⟩,.slice none 0 0] 54);have hJ0:PlJ w ((w.alloc (.cells #[.int .u64 0,.bool false,.int .u64 0,.string ⟨#[]⟩,.string ⟨#[]⟩,.slice none 0 0] 54)).alloc (.cells #[.int .u64 0,.bool false,.int .u64 0,.string ⟨#[]⟩,.string ⟨#[]⟩,.slice none 0 0] 54)) w.heap.size (w.heap.size+1) l 0:=⟨hA,((ai.refl [] _).alloc _).heap (heap_alloc_new w (.cells #[.int .u64 0,.bool false,.int .u64 0,.string ⟨#[]⟩,.string ⟨#[]⟩,.slice none 0 0] 54)) (by simp),heap_alloc2_new w (.cells #[.int .u64 0,.bool false,.int .u64 0,.string ⟨#[]⟩,.string ⟨#[]⟩,.slice none 0 0] 54) (.cells #[.int .u64 0,.bool false,.int .u64 0,.string ⟨#[]⟩,.string ⟨#[]⟩,.slice none 0 0] 54),by simp⟩;have uO:=af h;obtain⟨rb,hrb⟩: ∃rb,rb=w.heap.size:=⟨_,rfl⟩;obtain⟨pb,hpb⟩: ∃pb,pb=rb+1:=⟨_,rfl⟩;have Le:Hid (rb≠pb/\w.heap.size<=pb/\w.heap.size<=rb):=af ⟨by omega,by omega,by omega⟩;change Hid _ at hJ0;clear h hA;go_enter Tryz.func165,Tryz.ntmps165
 go_wp2_with fail
 rw[<-hrb]at hJ0⊢;rw[<-hpb]at hJ0⊢;generalize((w.alloc (.cells #[.int .u64 0,.bool false,.int .u64 0,.string ⟨#[]⟩,.string ⟨#[]⟩,.slice none 0 0] 54)).alloc (.cells #[.int .u64 0,.bool false,.int .u64 0,.string ⟨#[]⟩,.string ⟨#[]⟩,.slice none 0 0] 54))=wS at*;change Hid _ at hrb hpb;go_loopg[11] l.length (fun gg s11 wr=> ∃k:Nat,k<=l.length/\gg=l.length-k/\s11=.int .i64 k/\Aside (PlJ w wr rb pb l k))
 case atStart=>exact⟨0,by omega,by omega,rfl,hJ0.out⟩
 case round=>
  obtain⟨k,hk,rfl,rfl,hJ⟩:=hrel;have k0:(0:Int)<=k:=by omega
  by_cases hlt:k<l.length
  ·have k1:(k:Int)<l.length:=by omega
   have hwk:IntKind.i64.wrap ((k:Int)+1)=(k:Int)+1:=IntWalk.i64_in _ (by omega);obtain⟨b1,o1,rfl,c0,c1,c2,c3⟩:=(uO.out.nil' hJ.own).fld hlt;have hnext:=fun w5 hf ho hr=>hJ.next (w5:=w5) hlt hf ho Le.out.2.1 Le.out.1 hr
   have hbad:ji l[k]=false->l.all ji=false:=fun hh=>by
    rw[List.all_eq_false];exact⟨l[k],List.getElem_mem hlt,by simp[hh]⟩
   have hrow:=hJ.row;generalize(l.take k).foldl gD WC=p at*;generalize l[k]=f at*;have hA:=(ai.refl [] wr).alloc (.cells (fL f).toArray 100);have Dp:=heap_alloc_new wr (.cells (fL f).toArray 100);have fT:=hA.heap hrow (by simp);have aX:=hA.heap hJ.res (by simp);have aF:=hJ.own.trans hA;have hpl:=aj hrow;have hne:wr.heap.size≠pb:=by omega
   obtain⟨n,kd,val,txt⟩:=f;unfold fL at*;simp only at*;change Hid _ at hnext hbad;clear hJ hrow hpl hJ0;go_upto_region 5 with(fail)
   generalize(wr.alloc (.cells #[.int .i64 n,.int .i64 kd,.int .u64 val,.string txt] 100))=w5 at*;generalize wr.heap.size=fb at*;obtain⟨⟨d0,d1,d2,d3⟩,-⟩:=q4 Dp;clear c0 c1 c2 c3;have hAo:=af (hA.nil (S:=[pb]));change Hid _ at hA;by_cases hn1:n=1
   ·subst hn1
    by_cases hkd:kd=0
    ·subst hkd
     have qk:((0:Int)!=0)=false:=by decide
     obtain⟨Gn,ho6⟩:=vS (p':={p with t:=val}) fT 0 (.int .u64 val) rfl;have hnx:=af (hnext.out _ (by simp[ji]) (hAo.out.trans ho6) (by simpa[gD]using Gn));have t0:w5.cell? ⟨pb,0,none⟩=some (.int .u64 p.t):=cell_of_row _ _ 0 _ _ _ fT;have t1:=frozen_of_row w5 pb 0 _ _ fT;clear hnext hbad aX fT Dp aF;go_wp2_with fail
     refine(fQ 1 w5).mono ?_;rintro e w6 ⟨rfl,rfl⟩;unfold mg;go_wp2_with fail
     go_roundg(l.length-(k+1))
     case measure=>omega
     case rel=>exact⟨k+1,by omega,rfl,by simp,hnx.out⟩
    ·skip
     have qk:(0 !=kd)=true:=by simpa using fun h:(0:Int)=kd=>hkd h.symm
     have aK:=af (hbad.out (by simp[ji,hkd]));obtain⟨y0,y1,y2,y3,y4,y5,_⟩:=R8 aX;obtain⟨r0,r1,r2,r3,r4,r5⟩:=xV aX;obtain⟨hs3,aO⟩:=R9 aX (.int .u64 0) (.bool false) (.int .u64 0) (.string ⟨#[]⟩) (.string ⟨#[]⟩) (.slice none 0 0);change Hid _ at hs3;replace aO:=af (aF.trans' aO (fun x hx=>.inr (by simp at hx;subst hx;exact Le.out.2.2)));clear hnext hbad aX fT Dp aF;go_wp2_with fail
     refine(fQ 1 w5).mono ?_;rintro e w6 ⟨rfl,rfl⟩;unfold mg;go_wp2_with fail
     obtain⟨g0,g1,g2,g3,g4,g5⟩:=xV hs3.out;exact bodyPost_ret (v:=.tuple #[.agg #[.int .u64 0,.bool false,.int .u64 0,.string ⟨#[]⟩,.string ⟨#[]⟩,.slice none 0 0],.int .i64 4]) (by simp[results,Tryz.results165,go_sem,g0,g1,g2,g3,g4,g5];try rfl) rfl (oZ aK.out (by decide) aO.out)
   by_cases hn2:n=2
   ·subst hn2
    by_cases hkd:kd=2
    ·subst hkd
     have qk:((2:Int)!=2)=false:=by decide
     have hnx:=af (hnext.out w5 (by simp[ji]) hAo.out (by simpa[gD]using fT));clear hnext hbad aX fT Dp aF;go_wp2_with fail
     refine(fQ 2 w5).mono ?_;rintro e w6 ⟨rfl,rfl⟩;unfold mg;go_wp2_with fail
     go_roundg(l.length-(k+1))
     case measure=>omega
     case rel=>exact⟨k+1,by omega,rfl,by simp,hnx.out⟩
    ·skip
     have qk:(2 !=kd)=true:=by simpa using fun h:(2:Int)=kd=>hkd h.symm
     have aK:=af (hbad.out (by simp[ji,hkd]));obtain⟨y0,y1,y2,y3,y4,y5,_⟩:=R8 aX;obtain⟨r0,r1,r2,r3,r4,r5⟩:=xV aX;obtain⟨hs3,aO⟩:=R9 aX (.int .u64 0) (.bool false) (.int .u64 0) (.string ⟨#[]⟩) (.string ⟨#[]⟩) (.slice none 0 0);change Hid _ at hs3;replace aO:=af (aF.trans' aO (fun x hx=>.inr (by simp at hx;subst hx;exact Le.out.2.2)));clear hnext hbad aX fT Dp aF;go_wp2_with fail
     refine(fQ 2 w5).mono ?_;rintro e w6 ⟨rfl,rfl⟩;unfold mg;go_wp2_with fail
     obtain⟨g0,g1,g2,g3,g4,g5⟩:=xV hs3.out;exact bodyPost_ret (v:=.tuple #[.agg #[.int .u64 0,.bool false,.int .u64 0,.string ⟨#[]⟩,.string ⟨#[]⟩,.slice none 0 0],.int .i64 4]) (by simp[results,Tryz.results165,go_sem,g0,g1,g2,g3,g4,g5];try rfl) rfl (oZ aK.out (by decide) aO.out)
   by_cases XZ:n=3
   ·subst XZ
    by_cases hkd:kd=0
    ·subst hkd
     have qk:((0:Int)!=0)=false:=by decide
     obtain⟨Gn,ho6⟩:=vS (p':={p with h:=true}) fT 1 (.bool true) rfl;obtain⟨Pb,ho7⟩:=vS (p':={p with h:=true,s:=val}) Gn 2 (.int .u64 val) rfl;have hnx:=af (hnext.out (((w5.setCell ⟨pb,1,none⟩ (.bool true)).setCell ⟨pb,2,none⟩ (.int .u64 val)).drew) (by simp[ji]) (((hAo.out.trans ho6).trans ho7).drew) (by simp only[gD];exact Pb));have t0:w5.cell? ⟨pb,1,none⟩=some (.bool p.h):=cell_of_row _ _ 1 _ _ _ fT;have t1:=frozen_of_row w5 pb 1 _ _ fT;have t2:w5.cell? ⟨pb,2,none⟩=some (.int .u64 p.s):=cell_of_row _ _ 2 _ _ _ fT;have t3:=frozen_of_row w5 pb 2 _ _ fT;clear hnext hbad aX fT Dp aF;go_wp2_with fail
     refine(fQ 3 w5).mono ?_;rintro e w6 ⟨rfl,rfl⟩;unfold mg;go_wp2_with fail
     go_region
     all_goals
      go_wp2_with fail
      go_roundg(l.length-(k+1))
      case measure=>omega
      case rel=>exact⟨k+1,by omega,rfl,by simp,hnx.out⟩
    ·skip
     have qk:(0 !=kd)=true:=by simpa using fun h:(0:Int)=kd=>hkd h.symm
     have aK:=af (hbad.out (by simp[ji,hkd]));obtain⟨y0,y1,y2,y3,y4,y5,_⟩:=R8 aX;obtain⟨r0,r1,r2,r3,r4,r5⟩:=xV aX;obtain⟨hs3,aO⟩:=R9 aX (.int .u64 0) (.bool false) (.int .u64 0) (.string ⟨#[]⟩) (.string ⟨#[]⟩) (.slice none 0 0);change Hid _ at hs3;replace aO:=af (aF.trans' aO (fun x hx=>.inr (by simp at hx;subst hx;exact Le.out.2.2)));clear hnext hbad aX fT Dp aF;go_wp2_with fail
     refine(fQ 3 w5).mono ?_;rintro e w6 ⟨rfl,rfl⟩;unfold mg;go_wp2_with fail
     obtain⟨g0,g1,g2,g3,g4,g5⟩:=xV hs3.out;exact bodyPost_ret (v:=.tuple #[.agg #[.int .u64 0,.bool false,.int .u64 0,.string ⟨#[]⟩,.string ⟨#[]⟩,.slice none 0 0],.int .i64 4]) (by simp[results,Tryz.results165,go_sem,g0,g1,g2,g3,g4,g5];try rfl) rfl (oZ aK.out (by decide) aO.out)
   by_cases Va:n=4
   ·subst Va
    by_cases hkd:kd=2
    ·subst hkd
     have qk:((2:Int)!=2)=false:=by decide
     obtain⟨Gn,ho6⟩:=vS (p':={p with u:=txt}) fT 3 (.string txt) rfl;have hnx:=af (hnext.out _ (by simp[ji]) (hAo.out.trans ho6) (by simpa[gD]using Gn));have t0:w5.cell? ⟨pb,3,none⟩=some (.string p.u):=cell_of_row _ _ 3 _ _ _ fT;have t1:=frozen_of_row w5 pb 3 _ _ fT;clear hnext hbad aX fT Dp aF;go_wp2_with fail
     refine(fQ 4 w5).mono ?_;rintro e w6 ⟨rfl,rfl⟩;unfold mg;go_wp2_with fail
     go_roundg(l.length-(k+1))
     case measure=>omega
     case rel=>exact⟨k+1,by omega,rfl,by simp,hnx.out⟩
    ·skip
     have qk:(2 !=kd)=true:=by simpa using fun h:(2:Int)=kd=>hkd h.symm
     have aK:=af (hbad.out (by simp[ji,hkd]));obtain⟨y0,y1,y2,y3,y4,y5,_⟩:=R8 aX;obtain⟨r0,r1,r2,r3,r4,r5⟩:=xV aX;obtain⟨hs3,aO⟩:=R9 aX (.int .u64 0) (.bool false) (.int .u64 0) (.string ⟨#[]⟩) (.string ⟨#[]⟩) (.slice none 0 0);change Hid _ at hs3;replace aO:=af (aF.trans' aO (fun x hx=>.inr (by simp at hx;subst hx;exact Le.out.2.2)));clear hnext hbad aX fT Dp aF;go_wp2_with fail
     refine(fQ 4 w5).mono ?_;rintro e w6 ⟨rfl,rfl⟩;unfold mg;go_wp2_with fail
     obtain⟨g0,g1,g2,g3,g4,g5⟩:=xV hs3.out;exact bodyPost_ret (v:=.tuple #[.agg #[.int .u64 0,.bool false,.int .u64 0,.string ⟨#[]⟩,.string ⟨#[]⟩,.slice none 0 0],.int .i64 4]) (by simp[results,Tryz.results165,go_sem,g0,g1,g2,g3,g4,g5];try rfl) rfl (oZ aK.out (by decide) aO.out)
   by_cases Pn:n=5
   ·subst Pn
    by_cases hkd:kd=2
    ·subst hkd
     have qk:((2:Int)!=2)=false:=by decide
     obtain⟨Gn,ho6⟩:=vS (p':={p with b:=txt}) fT 4 (.string txt) rfl;have hnx:=af (hnext.out _ (by simp[ji]) (hAo.out.trans ho6) (by simpa[gD]using Gn));have t0:w5.cell? ⟨pb,4,none⟩=some (.string p.b):=cell_of_row _ _ 4 _ _ _ fT;have t1:=frozen_of_row w5 pb 4 _ _ fT;clear hnext hbad aX fT Dp aF;go_wp2_with fail
     refine(fQ 5 w5).mono ?_;rintro e w6 ⟨rfl,rfl⟩;unfold mg;go_wp2_with fail
     go_roundg(l.length-(k+1))
     case measure=>omega
     case rel=>exact⟨k+1,by omega,rfl,by simp,hnx.out⟩
    ·skip
     have qk:(2 !=kd)=true:=by simpa using fun h:(2:Int)=kd=>hkd h.symm
     have aK:=af (hbad.out (by simp[ji,hkd]));obtain⟨y0,y1,y2,y3,y4,y5,_⟩:=R8 aX;obtain⟨r0,r1,r2,r3,r4,r5⟩:=xV aX;obtain⟨hs3,aO⟩:=R9 aX (.int .u64 0) (.bool false) (.int .u64 0) (.string ⟨#[]⟩) (.string ⟨#[]⟩) (.slice none 0 0);change Hid _ at hs3;replace aO:=af (aF.trans' aO (fun x hx=>.inr (by simp at hx;subst hx;exact Le.out.2.2)));clear hnext hbad aX fT Dp aF;go_wp2_with fail
     refine(fQ 5 w5).mono ?_;rintro e w6 ⟨rfl,rfl⟩;unfold mg;go_wp2_with fail
     obtain⟨g0,g1,g2,g3,g4,g5⟩:=xV hs3.out;exact bodyPost_ret (v:=.tuple #[.agg #[.int .u64 0,.bool false,.int .u64 0,.string ⟨#[]⟩,.string ⟨#[]⟩,.slice none 0 0],.int .i64 4]) (by simp[results,Tryz.results165,go_sem,g0,g1,g2,g3,g4,g5];try rfl) rfl (oZ aK.out (by decide) aO.out)
   have hq1:(n==1)=false:=by simpa using hn1
   have hq2:(n==2)=false:=by simpa using hn2
   have hq3:(n==3)=false:=by simpa using XZ
   have hq4:(n==4)=false:=by simpa using Va
   have hq5:(n==5)=false:=by simpa using Pn
   have hnx:=af (hnext.out w5 (by simp[ji,hn1,hn2,XZ,Va,Pn]) hAo.out (by simpa[gD,hn1,XZ,Va,Pn]using fT));have cK:=fQ n w5;rw[show mg n=(0,false)by simp[mg,hn1,hn2,XZ,Va,Pn]]at cK;replace cK:=af cK;clear hnext hbad aX fT Dp aF hn1 hn2 XZ Va Pn;go_wp2_with fail
   refine cK.out.mono ?_;rintro e w6 ⟨rfl,rfl⟩;clear cK;simp only;go_wp2_with fail
   go_roundg(l.length-(k+1))
   case measure=>omega
   case rel=>exact⟨k+1,by omega,rfl,by simp,hnx.out⟩
  ·have k1: ¬(k:Int)<l.length:=by omega
   have hrow:=hJ.row;have hgood:=hJ.good;rw[List.take_of_length_le (by omega)]at hrow hgood;obtain⟨p,hp⟩: ∃p,l.foldl gD WC=p:=⟨_,rfl⟩;rw[hp]at hrow;unfold WB at hrow;obtain⟨e0,e1,e2,e3,e4,e5⟩:=xV hrow;obtain⟨y0,y1,y2,y3,y4,y5,_⟩:=R8 hJ.res;obtain⟨r0,r1,r2,r3,r4,r5⟩:=xV hJ.res;obtain⟨hs3,aO⟩:=R9 hJ.res (.int .u64 p.t) (.bool p.h) (.int .u64 p.s) (.string p.u) (.string p.b) (.slice none 0 0);change Hid _ at hs3;replace aO:=af (hJ.own.trans' aO (fun x hx=>.inr (by simp at hx;subst hx;exact Le.out.2.2)));change Hid _ at hgood hp;clear hJ hJ0 hrow;go_wp2_with fail
   obtain⟨g0,g1,g2,g3,g4,g5⟩:=xV hs3.out;exact bodyPost_ret (v:=.tuple #[.agg #[.int .u64 p.t,.bool p.h,.int .u64 p.s,.string p.u,.string p.b,.slice none 0 0],.int .i64 0]) (by simp[results,Tryz.results165,go_sem,g0,g1,g2,g3,g4,g5];try rfl) rfl (Sb hgood.out hp.out aO.out)
end Go.Proofs.YtedcakchekaemaaGreatDoor
namespace Go.Proofs.YtedcakchekaemaaGreatDoor
open Go.RowKit Go.Sort
variable [Kd]
def Gr(w w':World):Prop:= ∃q os',w'=grow (w.drewN q) os'
theorem Gr.refl(w:World):Gr w w:=⟨0,#[],by unfold grow;simp;rfl⟩
theorem Gr.alloc{w w':World}(h:Gr w w')(o:Obj):Gr w (w'.alloc o):=by
 obtain⟨q,os,rfl⟩:=h;exact⟨q,os++#[o],by rw[alloc_eq_grow,grow_grow]⟩
theorem Gr.drew{w w':World}(h:Gr w w'):Gr w w'.drew:=by
 obtain⟨q,os,rfl⟩:=h;exact⟨q+1,os,rfl⟩
theorem Gr.trans{a b c:World}(h:Gr a b)(k:Gr b c):Gr a c:=by
 obtain⟨q,os,rfl⟩:=h;obtain⟨r,os',rfl⟩:=k;exact⟨q+r,os++os',by unfold grow World.drewN;simp[Array.append_assoc,Nat.add_assoc]⟩
theorem Gr.own{w w':World}(h:Gr w w'):ai [] w w':=by
 obtain⟨q,os,rfl⟩:=h;refine⟨rfl,rfl,rfl,by unfold grow World.drewN;simp,fun j hj _=>?_⟩;unfold grow World.drewN;exact Array.getElem?_append_left hj
structure gN where
 g:ByteArray
 nm:ByteArray
 s:EN
 a:Option Addr
 cap:Nat
 va:Option Addr
 vc:Nat
 V:List DV
instance:Inhabited gN:=⟨⟨⟨#[]⟩,⟨#[]⟩,⟨false,0,0,false,false,[],[],[]⟩,none,0,none,0,[]⟩⟩
def rR(x:gN):List Value:=[.string x.g,.string x.nm,.bool x.s.online,.int .i64 (YP x.s),.int .i64 (vM x.s),.bool x.s.pending,.slice x.a x.s.items.length x.cap,.slice x.va x.V.length x.vc]
theorem kF(x:gN):(rR x).length=8:=rfl
theorem ab7:(Tryz.prog.info? 38).map (fun i=>(i.zero,i.size,i.bytes))=some (some (.agg #[.string ⟨#[]⟩,.string ⟨#[]⟩,.bool false,.int .i64 0,.int .i64 0,.bool false,.slice none 0 0,.slice none 0 0]),8,112):=by kernel_rfl
theorem YV:jG Tryz.prog 33 38 rR 8 112 where
 ut:=Tryz.underlying33
 info:=by obtain⟨i,h1,h2,h3,h4⟩:=info_parts ab7;exact⟨i,_,h1,h2,h3,h4,rfl⟩
 pos:=by omega
 len:=kF
 one x u hu:=by simp only[rR,List.mem_cons,List.not_mem_nil,or_false]at hu;rcases hu with rfl|rfl|rfl|rfl|rfl|rfl|rfl|rfl<;>rfl
def gN.key(x:gN):Rk:=(x.g,x.nm)
def gN.say(x:gN):Rk×EN:=(x.key,x.s)
def gN.feet(x:gN):List Nat:=(x.a.map (·.block)).toList++(Value.slice x.va x.V.length x.vc).ownBlock.toList++x.V.flatMap fun v=>(v.a.map (·.block)).toList
structure iY (B:Nat) (w:World) (x:gN):Prop where
 out:aM B w x.a x.cap x.s.items
 sl:Sl 46 xS 3 B w (.slice x.va x.V.length x.vc) x.V
 dvs:DVs B w x.V x.s.dev
theorem iY.own'{S:List Nat}{B:Nat}{w w':World}{x:gN}(h:iY B w x)(ho:ai S w w')(hS: ∀b∈x.feet,b∉S):iY B w' x:=by
 refine⟨h.out.own' ho (fun b hb=>hS b ?_),h.sl.own ho (fun b hb=>hS b ?_),h.dvs.1,fun i v y hv hy=>?_⟩
 ·unfold gN.feet;simp only[List.mem_append,Option.mem_toList];exact .inl (.inl hb)
 ·unfold gN.feet;simp only[List.mem_append,Option.mem_toList];exact .inl (.inr hb)
 ·obtain⟨k1,k2,k3,k4⟩:=h.dvs.2 i v y hv hy
  refine⟨k1,k2,k3,k4.own' ho (fun b hb=>hS b ?_)⟩;unfold gN.feet;simp only[List.mem_append,List.mem_flatMap,Option.mem_toList];exact .inr ⟨v,List.mem_of_getElem? hv,hb⟩
theorem iY.nil'{B:Nat}{w w':World}{x:gN}(h:iY B w x)(ho:ai [] w w'):iY B w' x:=h.own' ho (by simp)
theorem iY.mono{B B':Nat}{w:World}{x:gN}(h:iY B w x)(hb:B'<=B):iY B' w x:=
 ⟨⟨h.out.own,fun q hq=>Nat.le_trans hb (h.out.fresh q hq),h.out.good⟩,h.sl.mono hb,h.dvs.1,fun i v y hv hy=>by
  obtain⟨k1,k2,k3,k4⟩:=h.dvs.2 i v y hv hy;exact⟨k1,k2,k3,⟨k4.own,fun q hq=>Nat.le_trans hb (k4.fresh q hq),k4.good⟩⟩⟩
theorem iY.feet{B:Nat}{w:World}{x:gN}(h:iY B w x): ∀b∈x.feet,B<=b/\b<w.heap.size:=fun b hb=>by
 unfold gN.feet at hb;simp only[List.mem_append,List.mem_flatMap,Option.mem_toList]at hb;rcases hb with(hb|hb)|⟨v,hv,hb⟩
 ·exact oM h.out b hb
 ·exact h.sl.block hb
 ·obtain⟨i,hi⟩:=List.getElem?_of_mem hv
  have hil:i<x.s.dev.length:=by rw[<-h.dvs.1];exact(List.getElem?_eq_some_iff.1 hi).1
  exact oM (h.dvs.2 i v _ hi (List.getElem?_eq_getElem hil)).2.2.2 b hb
theorem Jz(x:gZ)(w:World)(h:au w x.blk x.g x.n x.L x.s):Calls Tryz.prog 25 #[aN x.blk] w fun e w'=> ∃v:gN,e=.returned (.agg #[.string v.g,.string v.nm,.bool v.s.online,.int .i64 (YP v.s),.int .i64 (vM v.s),.bool v.s.pending,.slice v.a v.s.items.length v.cap,.slice v.va v.V.length v.vc])/\Aside (v.say=(x.key,x.s)/\iY w.heap.size w' v)/\ai [] w w':=by
 refine(Rh x.blk x.g x.n x.L x.s w h).mono ?_;rintro e w' ⟨a,cap,vv,V,rfl,h1,h2,h3,h4⟩;obtain⟨va,vc,rfl⟩:=h2.sl;exact⟨⟨x.g,x.n,x.s,a,cap,va,vc,V⟩,rfl,⟨rfl,h1,h2,h3⟩,h4⟩
def Sw(x y:gN):Int:=or2 (mV x.g y.g) (mV x.nm y.nm)
theorem Sy(x0 x1 y0 y1:ByteArray)(xb yb:Bool)(xi xj yi yj:Int)(xp yp:Bool)(xs xt ys yt:Value)(w:World):Calls Tryz.prog 27 #[.agg #[.string x0,.string x1,.bool xb,.int .i64 xi,.int .i64 xj,.bool xp,xs,xt],.agg #[.string y0,.string y1,.bool yb,.int .i64 yi,.int .i64 yj,.bool yp,ys,yt]] w fun e w'=>e=.returned (.int .i64 (or2 (mV x0 y0) (mV x1 y1)))/\Gr w w':=by
 have hO:=((Gr.refl w).alloc (.cells #[.string x0,.string x1,.bool xb,.int .i64 xi,.int .i64 xj,.bool xp,xs,xt] 38)).alloc (.cells #[.string y0,.string y1,.bool yb,.int .i64 yi,.int .i64 yj,.bool yp,ys,yt] 38);have hb:=((ai.refl [] _).alloc (.cells #[.string y0,.string y1,.bool yb,.int .i64 yi,.int .i64 yj,.bool yp,ys,yt] 38)).heap (heap_alloc_new w (.cells #[.string x0,.string x1,.bool xb,.int .i64 xi,.int .i64 xj,.bool xp,xs,xt] 38)) (by simp);have hd:=heap_alloc2_new w (.cells #[.string x0,.string x1,.bool xb,.int .i64 xi,.int .i64 xj,.bool xp,xs,xt] 38) (.cells #[.string y0,.string y1,.bool yb,.int .i64 yi,.int .i64 yj,.bool yp,ys,yt] 38);have C:=af (fun u v W=>zA u v W);have cO:=af (fun x y q W h0 h1=>KN x y q W h0 h1);have hx:Hid (∀W,Gr ((w.alloc (.cells #[.string x0,.string x1,.bool xb,.int .i64 xi,.int .i64 xj,.bool xp,xs,xt] 38)).alloc (.cells #[.string y0,.string y1,.bool yb,.int .i64 yi,.int .i64 yj,.bool yp,ys,yt] 38)) W->(W.cell? ⟨w.heap.size,0,none⟩=some (.string x0)/\W.cell? ⟨w.heap.size,1,none⟩=some (.string x1)/\W.cell? ⟨w.heap.size+1,0,none⟩=some (.string y0)/\W.cell? ⟨w.heap.size+1,1,none⟩=some (.string y1))/\Gr w W):=af fun W ho=>
  ⟨⟨cell_of_row _ _ 0 _ _ _ (ho.own.heap hb (by simp)),cell_of_row _ _ 1 _ _ _ (ho.own.heap hb (by simp)),cell_of_row _ _ 0 _ _ _ (ho.own.heap hd (by simp)),cell_of_row _ _ 1 _ _ _ (ho.own.heap hd (by simp))⟩,hO.trans ho⟩
 clear hO hb hd;go_enter Tryz.func27,Tryz.ntmps27
 go_wp2_with fail
 generalize((w.alloc (.cells #[.string x0,.string x1,.bool xb,.int .i64 xi,.int .i64 xj,.bool xp,xs,xt] 38)).alloc (.cells #[.string y0,.string y1,.bool yb,.int .i64 yi,.int .i64 yj,.bool yp,ys,yt] 38))=W0 at*;generalize hxb:w.heap.size=xb at*;have kW:=(hx.out W0 (Gr.refl _)).1;have JZ:=(hx.out W0.drew ((Gr.refl W0).drew)).1;go_region_held3(fun W=>W.cell? ⟨xb,0,none⟩=some (.string x0)/\W.cell? ⟨xb,1,none⟩=some (.string x1)/\W.cell? ⟨xb+1,0,none⟩=some (.string y0)/\W.cell? ⟨xb+1,1,none⟩=some (.string y1)) (first|with_reducible exact kW|with_reducible exact JZ|go_keep)
  ((first
    |(go_at_call 29;(with_reducible refine(C.out _ _ _).mono ?_);rintro e w2 ⟨rfl,rfl⟩)
    |(go_at_call 28;go_loud(refine(cO.out (mV x0 y0) (mV x1 y1) W0.heap.size _ (by first|exact cell_of_row _ _ 0 _ _ _ (heap_alloc_new _ _)|exact cell_of_row _ _ 0 _ _ _ (heap_alloc_new W0 _)) (by first|exact cell_of_row _ _ 1 _ _ _ (heap_alloc_new _ _)|exact cell_of_row _ _ 1 _ _ _ (heap_alloc_new W0 _))).mono ?_);rintro e w3 ⟨rfl,rfl⟩)))
 go_wp2_with fail
 go_ret
 exact⟨rfl,(hx.out _ ((Gr.refl W0).alloc _).drew).2⟩
theorem Sz(x y:gN)(W:World):Calls Tryz.prog 27 #[.agg (rR x).toArray,.agg (rR y).toArray] W fun e w'=>e=.returned (.int .i64 (Sw x y))/\ ∃q os',w'=grow (W.drewN q) os':=
 Sy x.g x.nm y.g y.nm _ _ _ _ _ _ _ _ _ _ _ _ W
end Go.Proofs.YtedcakchekaemaaGreatDoor
namespace Go.Proofs.YtedcakchekaemaaGreatDoor
open Go.RowKit Go.Sort Go.Lib Go.Shelf
variable [Kd]
theorem KV(x y:gN):ltOf Sw x y=true↔dH x.key y.key:=by
 unfold ltOf;rw[decide_eq_true_iff];exact vN ⟨x.g,x.nm,⟨#[]⟩⟩ y.key
theorem Db(x y:gN):ltOf Sw x y=false↔ ¬dH x.key y.key:=by
 rw[<-KV,Bool.not_eq_true]
theorem JA:SWO (ltOf Sw) where
 irrefl x:=by rw[Db];exact nX _
 trans x y z h1 h2:=by rw[KV]at*;exact jC h1 h2
 ntrans x y z h1 h2:=by
  rw[Db]at*;intro h;by_cases hxy:dH y.key x.key
  ·exact h2 (jC hxy h)
  ·have e:=pX h1 hxy
   rw[e]at h;exact h2 h
theorem JB{base:Nat}{w:World}{v:Value}{l:List gN}(h:Sl 38 rR 8 base w v l)(hl:l.length<4611686018427387904):
  Calls Tryz.prog 26 #[v,.func (.func 27) #[] #[]] w fun e w'=>
   e=.returned (.tuple #[])/\ ∃l',l'.Perm l/\l'.Pairwise (fun x y=> ¬dH y.key x.key)/\Sl 38 rR 8 base w' v l'/\ai v.ownBlock.toList w w':=by
 rcases h.form with⟨rfl,rfl⟩|⟨g,cap,rfl,hg,hR⟩
 ·refine(GX none 0 _ w).mono ?_
  rintro e w' ⟨he,rfl⟩;exact⟨he,[],List.Perm.refl _,List.Pairwise.nil,h,ai.refl _ _⟩
 ·have eg: ∀args w,(callFunc 27 args).run Tryz.prog w=.ok (.enter 27 args) w:=enters_of Tryz.func27 (by kernel_rfl) rfl
  refine(SA Tryz.sortNodes (by intro w;kernel_rfl) (by intro w;kernel_rfl) kF (fun x v hv=>YV.one x v hv) Sw JA 27 eg Sz hR hl).mono ?_;rintro e w' ⟨he,l',h1,h2,h3,h4⟩;refine⟨he,l',h1,h2.imp ?_,?_,by simpa[Value.ownBlock]using h4⟩
  ·intro x y hxy
   rwa[Db]at hxy
  ·rw[<-h1.length_eq]
   exact Sl.of_row h3 kF hg
def ndE(x:gZ):Rk×Value:=(x.key,aN x.blk)
def gZ.say(x:gZ):Rk×EN:=(x.key,x.s)
structure O7 (w:World) (K:aW) (wr:World) (r:Nat) (sv:Value) (dn mid R:List gZ) (T:List gN):Prop where
 it:jw dm wr r K.m (K.NS.map ndE) (R.map ndE)
 own:ai [] w wr
 sl:Sl 38 rR 8 w.heap.size wr sv T
 perm:K.NS.Perm (dn++mid++R)
 say:T.map gN.say=dn.map gZ.say
 nr:w.heap.size<=r/\r<wr.heap.size/\K.m<w.heap.size
 ns: ∀b,sv.ownBlock=some b->b≠r
 sh: ∀v∈T,iY w.heap.size wr v/\ ∀b∈v.feet,b≠r/\sv.ownBlock≠some b
theorem O7.len{w wr:World}{K:aW}{r:Nat}{sv:Value}{dn mid R:List gZ}{T:List gN}(J:O7 w K wr r sv dn mid R T):T.length=dn.length:=by
 have:=congrArg List.length J.say;simpa using this
theorem O7.next{w wr:World}{K:aW}{r:Nat}{sv:Value}{dn R:List gZ}{T:List gN}(J:O7 w K wr r sv dn [] R T):
  (R=[]/\ ∀ty,(Instr.next (.pointer (some ⟨r,0,none⟩)) false ty).run Tryz.prog wr=.ok (.tuple #[.bool false]) wr)\/
  ∃R1 x R2 w2,R=R1++x::R2/\(∀ty,(Instr.next (.pointer (some ⟨r,0,none⟩)) false ty).run Tryz.prog wr=.ok (.tuple #[.bool true,dm x.key,aN x.blk]) w2)/\(Instr.entry (.pointer (some ⟨r,0,none⟩))).run Tryz.prog w2=.ok (.tuple #[dm x.key,aN x.blk]) w2/\O7 w K w2 r sv dn [x] (R1++R2) T:=by
 rcases J.it.next (P:=Tryz.prog) 0 with⟨h1,h2⟩|⟨r1,r2,p,w2,h1,h2,h3,h4,h5,h6⟩
 ·exact .inl ⟨List.map_eq_nil_iff.1 h1,fun ty=>h2⟩
 ·right
  obtain⟨R1,R',hR,e1,e2⟩:=List.map_eq_append_iff.1 h1;obtain⟨x,R2,hR',e3,e4⟩:=List.map_eq_cons_iff.1 e2;subst hR';subst hR;subst e3;subst e1;subst e4;refine⟨R1,x,R2,w2,rfl,fun ty=>h2,h6,?_,?_,?_,?_,J.say,?_,J.ns,?_⟩
  ·rw[List.map_append];exact h3
  ·exact J.own.trans' h4 (fun z hz=>by simp at hz;subst hz;exact .inr J.nr.1)
  ·exact J.sl.own h4 (fun b hb hx=>by simp at hx;exact J.ns b hb hx)
  ·have:=J.perm
   refine this.trans ?_;simp only[List.append_nil,List.append_assoc];exact List.Perm.append_left dn (by simp)
  ·exact⟨J.nr.1,by rw[h5];exact J.nr.2.1,J.nr.2.2⟩
  ·intro v hv
   obtain⟨k1,k2⟩:=J.sh v hv;exact⟨k1.own' h4 (fun b hb hx=>by simp at hx;exact(k2 b hb).1 hx),k2⟩
theorem O7.push{w w2 w3 w4 w5:World}{K:aW}{r:Nat}{sv v':Value}{dn R:List gZ}{x:gZ}{T:List gN}{v:gN}(J:O7 w K w2 r sv dn [x] R T)(ho1:ai [] w2 w3)(hs:v.say=x.say)(hv:iY w2.heap.size w3 v)(ho2:ai [] w3 w4)
  (hS:Sl 38 rR 8 w.heap.size w5 v' (T++[v]))(aF:ai [] w w5)(hg2: ∀g,v'.ownBlock=some g->sv.ownBlock=some g\/w4.heap.size<=g)(hg3:ai sv.ownBlock.toList w4 w5):O7 w K w5 r v' (dn++[x]) [] R (T++[v]):=by
 have hs1:=ho1.size;have hs2:=ho2.size;have hs3:=hg3.size;have h24:=ho1.trans ho2;obtain⟨n1,n2,n3⟩:=J.nr;have hw2:=J.own.size;have hb:=fun b (hb:sv.ownBlock=some b)=>J.sl.block hb
 have hft:=hv.feet;refine⟨((J.it.own h24 (by simp) (by simp)).own hg3 (fun hx=>J.ns r (Option.mem_toList.1 hx) rfl) (fun hx=>by have:=(hb _ (Option.mem_toList.1 hx)).1;omega)),aF,hS,by simpa using J.perm,by simp[J.say,hs],⟨n1,by omega,n3⟩,fun b hb'=>?_,fun u hu=>?_⟩
 ·rcases hg2 b hb' with h1|h1
  ·exact J.ns b h1
  ·omega
 ·rcases List.mem_append.1 hu with hu|hu
  ·obtain⟨k1,k2⟩:=J.sh u hu
   refine⟨(k1.nil' h24).own' hg3 (fun b hb hx=>(k2 b hb).2 (Option.mem_toList.1 hx)),fun b hb=>⟨(k2 b hb).1,fun hx=>?_⟩⟩;have:=(k1.feet b hb).2;rcases hg2 b hx with h1|h1
   ·exact(k2 b hb).2 h1
   ·omega
  ·rw[List.mem_singleton]at hu
   subst hu;refine⟨((hv.mono hw2).nil' ho2).own' hg3 (fun b hb' hx=>?_),fun b hb'=>⟨?_,fun hx=>?_⟩⟩
   ·have h1:=(hb b (Option.mem_toList.1 hx)).2
    have h2:=(hft b hb').1;omega
   ·have h2:=(hft b hb').1
    omega
   ·have h2:=hft b hb'
    rcases hg2 b hx with h1|h1
    ·have h1:=(hb b h1).2
     omega
    ·omega
def lJ(S:SP)(w:World)(e:Ending)(w':World):Prop:=
 ∃v T,e=.returned v/\(T.map gN.say).Perm S.nodes/\T.Pairwise (fun x y=>dH x.key y.key)/\Sl 38 rR 8 w.heap.size w' v T/\(∀x∈T,iY w.heap.size w' x)/\ai [] w w'
theorem O7.done{w wr w':World}{K:aW}{r:Nat}{sv:Value}{dn:List gZ}{T T':List gN}(J:O7 w K wr r sv dn [] [] T)(hnd:(K.NS.map gZ.key).Nodup)(hp:T'.Perm T)(hs:T'.Pairwise (fun x y=> ¬dH y.key x.key))(hS:Sl 38 rR 8 w.heap.size w' sv T')(ho:ai sv.ownBlock.toList wr w'):lJ K.sp w (.returned sv) w':=by
 have hpm:=J.perm;simp only[List.append_nil]at hpm;have U1:(T'.map gN.say).Perm K.sp.nodes:=by
  refine(hp.map _).trans ?_;rw[J.say];exact(hpm.symm.map gZ.say)
 have hnd':(T'.map gN.key).Nodup:=by
  have h1:(T'.map gN.key)=(T'.map gN.say).map (·.1):=by rw[List.map_map];rfl
  rw[h1];refine((U1.map (·.1)).nodup_iff).2 ?_;unfold aW.sp;simp only[List.map_map];exact hnd
 refine⟨sv,T',rfl,U1,?_,hS,fun x hx=>?_,J.own.trans' ho (fun z hz=>.inr (J.sl.block (Option.mem_toList.1 hz)).1)⟩
 ·have h2:T'.Pairwise (fun x y=>x.key≠y.key):=List.pairwise_map.1 hnd'
  refine(hs.and h2).imp ?_;rintro a b ⟨h3,h4⟩;by_cases h5:dH a.key b.key
  ·exact h5
  ·exact absurd (pX h5 h3) h4
 ·obtain⟨k1,k2⟩:=J.sh x (hp.mem_iff.1 hx)
  exact k1.own' ho (fun b hb hx=>(k2 b hb).2 (Option.mem_toList.1 hx))
theorem o5(K:aW)(w:World)(H:bE w K):Calls Tryz.prog 10 #[aN K.p] w (lJ K.sp w):=by
 have h0:w.cell? ⟨K.p,0,none⟩=some (.map (some K.m)):=cell_of_row _ _ 0 _ _ _ H.sp;have cN:=af (oq K.p K.m w h0);obtain⟨w1,hr,hI,hO,hs1⟩:=H.nm.range (P:=Tryz.prog) iw;have J0:O7 w K w1 w.heap.size (.slice none 0 0) [] [] K.NS []:=⟨hI,hO,Sl.nil _ _ _,by simp,rfl,⟨Nat.le_refl _,by omega,H.nm.lt⟩,fun b hb=>(by cases hb),by simp⟩;have cV:=fun W (ho:ai [] w W) x (hx:x∈K.NS)=>Jz x W ((H.eds x hx).own ho (by simp))
 have hnd:=H.nd;have Gp:=H.few;obtain⟨r,hrr⟩: ∃r,w.heap.size=r:=⟨_,rfl⟩;have hr':=hr;rw[hrr]at J0 hr;change Hid _ at J0 cV hrr;replace hnd:=af hnd;clear H hI hO hs1 hr';go_enter Tryz.func10,Tryz.ntmps10
 go_wp2_with(go_at_call 22;((with_reducible refine cN.out.mono ?_);rintro e w2 ⟨rfl,rfl⟩))
 go_loopg[3] K.NS.length (fun g s3 wr=> ∃(dn R:List gZ) (T:List gN),g=R.length/\Aside (O7 w K wr r s3 dn [] R T))
 case atStart=>exact⟨[],K.NS,[],rfl,J0.out⟩
 case round=>
  obtain⟨dn,R,T,rfl,J⟩:=hrel;have hl1:=J.len;have hl2:=J.perm.length_eq;simp only[List.append_nil,List.length_append]at hl2;rcases J.next with⟨rfl,hnx⟩|⟨R1,x,R2,w2,rfl,hnx,hen,J2⟩
  ·have cS:=af (JB J.sl (by omega))
   replace J:=af J;obtain⟨sa,sc,hsv⟩:=J.out.sl.sl;subst hsv;clear hl1 hl2;go_wp2_with(go_at_call 26;((with_reducible refine cS.out.mono ?_);rintro e w3 ⟨rfl,T',q1,q2,q3,q4⟩;have hF:=af (J.out.done hnd.out q1 q2 q3 q4);clear q1 q2 q3 q4))
   go_ret
   exact hF.out
  ·have hxm:x∈K.NS:=J2.perm.mem_iff.2 (by simp)
   have cX:=af (cV.out w2 J2.own x hxm);obtain⟨sa,sc,hsv⟩:=J2.sl.sl;have hsz:T.length<=8:=by omega
   subst hsv;replace J2:=af J2;simp only[dm]at hnx hen;clear J hl1 hl2;go_wp2_with(first
    |(go_at_call 25;(with_reducible refine cX.out.mono ?_);rintro e w3 ⟨v,rfl,hv,hO3⟩;have hRb:=af (aG.new (enc:=rR) (T:=38) w3 v 1);have hO4:=af ((ai.refl [] w3).alloc (.cells (rR v).toArray 38));have mJ:=af ((J2.out.sl.nil' hO3).nil' hO4.out);have aF:=af ((J2.out.own.trans hO3).trans hO4.out);replace hO3:=af hO3)
    |(at_builtin;refine aT rfl (.tmp 17) (.tmp 20) rfl YV aF.out rfl mJ.out rfl hRb.out (by simp only[List.length_singleton];omega) (by unfold maxLen;simp only[List.length_singleton];omega) ?_;intro va w5 kI Ay _ hg2 hg3;have J3:=J2.out.push hO3.out hv.1 hv.2 hO4.out kI Ay hg2 hg3;obtain⟨T2,mX⟩: ∃T2,T++[v]=T2:=⟨_,rfl⟩;rw[mX]at J3 kI;obtain⟨aa,ca,rfl⟩:=kI.sl;replace J3:=af J3;clear kI Ay hg2 hg3 mX))
   go_roundg(R1++R2).length
   case measure=>simp
   case rel=>exact⟨_,_,_,rfl,J3.out⟩
end Go.Proofs.YtedcakchekaemaaGreatDoor
