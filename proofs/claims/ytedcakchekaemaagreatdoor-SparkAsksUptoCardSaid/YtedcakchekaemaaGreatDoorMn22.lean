import Derived.Test.YtedcakchekaemaaGreatDoorMn21
set_option maxRecDepth 100000
set_option maxHeartbeats 16000000
set_option linter.all false
namespace Go.Proofs.YtedcakchekaemaaGreatDoor
open Go.RowKit
variable [Kd]
theorem c7{w:World}{b:Nat}{x0 x1 x2 x3 x4 x5 x6:Value}{T:TypeId}(h:w.heap[b]?=some (.cells #[x0,x1,x2,x3,x4,x5,x6] T (0,0))):
  w.cell? ⟨b,0,none⟩=some x0/\w.cell? ⟨b,1,none⟩=some x1/\w.cell? ⟨b,2,none⟩=some x2/\w.cell? ⟨b,3,none⟩=some x3/\w.cell? ⟨b,4,none⟩=some x4/\w.cell? ⟨b,5,none⟩=some x5/\w.cell? ⟨b,6,none⟩=some x6:=
 ⟨cell_of_row _ _ 0 _ _ _ h,cell_of_row _ _ 1 _ _ _ h,cell_of_row _ _ 2 _ _ _ h,cell_of_row _ _ 3 _ _ _ h,cell_of_row _ _ 4 _ _ _ h,cell_of_row _ _ 5 _ _ _ h,cell_of_row _ _ 6 _ _ _ h⟩
theorem z7{w:World}{b:Nat}{x0 x1 x2 x3 x4 x5 x6:Value}{T:TypeId}(h:w.heap[b]?=some (.cells #[x0,x1,x2,x3,x4,x5,x6] T (0,0))):
  w.frozen? ⟨b,0,none⟩=false/\w.frozen? ⟨b,1,none⟩=false/\w.frozen? ⟨b,2,none⟩=false/\w.frozen? ⟨b,3,none⟩=false/\w.frozen? ⟨b,4,none⟩=false/\w.frozen? ⟨b,5,none⟩=false/\w.frozen? ⟨b,6,none⟩=false/\b<w.heap.size:=
 ⟨frozen_of_row w b 0 _ _ h,frozen_of_row w b 1 _ _ h,frozen_of_row w b 2 _ _ h,frozen_of_row w b 3 _ _ h,frozen_of_row w b 4 _ _ h,frozen_of_row w b 5 _ _ h,frozen_of_row w b 6 _ _ h,aj h⟩
theorem s7{w:World}{b:Nat}{x0 x1 x2 x3 x4 x5 x6:Value}{T:TypeId}(h:w.heap[b]?=some (.cells #[x0,x1,x2,x3,x4,x5,x6] T (0,0)))(u0 u1 u2 u3 u4 u5 u6:Value):
  (((((((w.setCell ⟨b,0,none⟩ u0).setCell ⟨b,1,none⟩ u1).setCell ⟨b,2,none⟩ u2).setCell ⟨b,3,none⟩ u3).setCell ⟨b,4,none⟩ u4).setCell ⟨b,5,none⟩ u5).setCell ⟨b,6,none⟩ u6).heap[b]?=some (.cells #[u0,u1,u2,u3,u4,u5,u6] T (0,0))/\ai [b] w (((((((w.setCell ⟨b,0,none⟩ u0).setCell ⟨b,1,none⟩ u1).setCell ⟨b,2,none⟩ u2).setCell ⟨b,3,none⟩ u3).setCell ⟨b,4,none⟩ u4).setCell ⟨b,5,none⟩ u5).setCell ⟨b,6,none⟩ u6):=by
 have h0:=heap_setCell_same w b 0 _ T u0 h;have h1:=heap_setCell_same _ b 1 _ T u1 h0;have h2:=heap_setCell_same _ b 2 _ T u2 h1;have h3:=heap_setCell_same _ b 3 _ T u3 h2;have h4:=heap_setCell_same _ b 4 _ T u4 h3;have h5:=heap_setCell_same _ b 5 _ T u5 h4;have h6:=heap_setCell_same _ b 6 _ T u6 h5;exact⟨by simpa using h6,((((((((ai.refl [b] w).setCell (.inl (by simp)) _).setCell (.inl (by simp)) _).setCell (.inl (by simp)) _).setCell (.inl (by simp)) _).setCell (.inl (by simp)) _).setCell (.inl (by simp)) _).setCell (.inl (by simp)) _)⟩
theorem c8{w:World}{b:Nat}{x0 x1 x2 x3 x4 x5 x6 x7:Value}{T:TypeId}(h:w.heap[b]?=some (.cells #[x0,x1,x2,x3,x4,x5,x6,x7] T (0,0))):
  w.cell? ⟨b,0,none⟩=some x0/\w.cell? ⟨b,1,none⟩=some x1/\w.cell? ⟨b,2,none⟩=some x2/\w.cell? ⟨b,3,none⟩=some x3/\w.cell? ⟨b,4,none⟩=some x4/\w.cell? ⟨b,5,none⟩=some x5/\w.cell? ⟨b,6,none⟩=some x6/\w.cell? ⟨b,7,none⟩=some x7:=
 ⟨cell_of_row _ _ 0 _ _ _ h,cell_of_row _ _ 1 _ _ _ h,cell_of_row _ _ 2 _ _ _ h,cell_of_row _ _ 3 _ _ _ h,cell_of_row _ _ 4 _ _ _ h,cell_of_row _ _ 5 _ _ _ h,cell_of_row _ _ 6 _ _ _ h,cell_of_row _ _ 7 _ _ _ h⟩
theorem z8{w:World}{b:Nat}{x0 x1 x2 x3 x4 x5 x6 x7:Value}{T:TypeId}(h:w.heap[b]?=some (.cells #[x0,x1,x2,x3,x4,x5,x6,x7] T (0,0))):
  w.frozen? ⟨b,0,none⟩=false/\w.frozen? ⟨b,1,none⟩=false/\w.frozen? ⟨b,2,none⟩=false/\w.frozen? ⟨b,3,none⟩=false/\w.frozen? ⟨b,4,none⟩=false/\w.frozen? ⟨b,5,none⟩=false/\w.frozen? ⟨b,6,none⟩=false/\w.frozen? ⟨b,7,none⟩=false/\b<w.heap.size:=
 ⟨frozen_of_row w b 0 _ _ h,frozen_of_row w b 1 _ _ h,frozen_of_row w b 2 _ _ h,frozen_of_row w b 3 _ _ h,frozen_of_row w b 4 _ _ h,frozen_of_row w b 5 _ _ h,frozen_of_row w b 6 _ _ h,frozen_of_row w b 7 _ _ h,aj h⟩
theorem s8{w:World}{b:Nat}{x0 x1 x2 x3 x4 x5 x6 x7:Value}{T:TypeId}(h:w.heap[b]?=some (.cells #[x0,x1,x2,x3,x4,x5,x6,x7] T (0,0)))(u0 u1 u2 u3 u4 u5 u6 u7:Value):
  ((((((((w.setCell ⟨b,0,none⟩ u0).setCell ⟨b,1,none⟩ u1).setCell ⟨b,2,none⟩ u2).setCell ⟨b,3,none⟩ u3).setCell ⟨b,4,none⟩ u4).setCell ⟨b,5,none⟩ u5).setCell ⟨b,6,none⟩ u6).setCell ⟨b,7,none⟩ u7).heap[b]?=some (.cells #[u0,u1,u2,u3,u4,u5,u6,u7] T (0,0))/\ai [b] w ((((((((w.setCell ⟨b,0,none⟩ u0).setCell ⟨b,1,none⟩ u1).setCell ⟨b,2,none⟩ u2).setCell ⟨b,3,none⟩ u3).setCell ⟨b,4,none⟩ u4).setCell ⟨b,5,none⟩ u5).setCell ⟨b,6,none⟩ u6).setCell ⟨b,7,none⟩ u7):=by
 have h0:=heap_setCell_same w b 0 _ T u0 h;have h1:=heap_setCell_same _ b 1 _ T u1 h0;have h2:=heap_setCell_same _ b 2 _ T u2 h1;have h3:=heap_setCell_same _ b 3 _ T u3 h2;have h4:=heap_setCell_same _ b 4 _ T u4 h3;have h5:=heap_setCell_same _ b 5 _ T u5 h4;have h6:=heap_setCell_same _ b 6 _ T u6 h5;have h7:=heap_setCell_same _ b 7 _ T u7 h6;exact⟨by simpa using h7,(((((((((ai.refl [b] w).setCell (.inl (by simp)) _).setCell (.inl (by simp)) _).setCell (.inl (by simp)) _).setCell (.inl (by simp)) _).setCell (.inl (by simp)) _).setCell (.inl (by simp)) _).setCell (.inl (by simp)) _).setCell (.inl (by simp)) _)⟩
theorem IZ{w:World}{b:Nat}{x0 x1 x2 x3 x4 x5 x6 x7 x8 x9 x10 pz TW T9 XV:Value}{T:TypeId}(h:w.heap[b]?=some (.cells #[x0,x1,x2,x3,x4,x5,x6,x7,x8,x9,x10,pz,TW,T9,XV] T (0,0))):
  w.cell? ⟨b,0,none⟩=some x0/\w.cell? ⟨b,1,none⟩=some x1/\w.cell? ⟨b,2,none⟩=some x2/\w.cell? ⟨b,3,none⟩=some x3/\w.cell? ⟨b,4,none⟩=some x4/\w.cell? ⟨b,5,none⟩=some x5/\w.cell? ⟨b,6,none⟩=some x6/\w.cell? ⟨b,7,none⟩=some x7/\w.cell? ⟨b,8,none⟩=some x8/\w.cell? ⟨b,9,none⟩=some x9/\w.cell? ⟨b,10,none⟩=some x10/\w.cell? ⟨b,11,none⟩=some pz/\w.cell? ⟨b,12,none⟩=some TW/\w.cell? ⟨b,13,none⟩=some T9/\w.cell? ⟨b,14,none⟩=some XV:=
 ⟨cell_of_row _ _ 0 _ _ _ h,cell_of_row _ _ 1 _ _ _ h,cell_of_row _ _ 2 _ _ _ h,cell_of_row _ _ 3 _ _ _ h,cell_of_row _ _ 4 _ _ _ h,cell_of_row _ _ 5 _ _ _ h,cell_of_row _ _ 6 _ _ _ h,cell_of_row _ _ 7 _ _ _ h,cell_of_row _ _ 8 _ _ _ h,cell_of_row _ _ 9 _ _ _ h,cell_of_row _ _ 10 _ _ _ h,cell_of_row _ _ 11 _ _ _ h,cell_of_row _ _ 12 _ _ _ h,cell_of_row _ _ 13 _ _ _ h,cell_of_row _ _ 14 _ _ _ h⟩
theorem Yl{w:World}{b:Nat}{x0 x1 x2 x3 x4 x5 x6 x7 x8 x9 x10 pz TW T9 XV:Value}{T:TypeId}(h:w.heap[b]?=some (.cells #[x0,x1,x2,x3,x4,x5,x6,x7,x8,x9,x10,pz,TW,T9,XV] T (0,0))):
  w.frozen? ⟨b,0,none⟩=false/\w.frozen? ⟨b,1,none⟩=false/\w.frozen? ⟨b,2,none⟩=false/\w.frozen? ⟨b,3,none⟩=false/\w.frozen? ⟨b,4,none⟩=false/\w.frozen? ⟨b,5,none⟩=false/\w.frozen? ⟨b,6,none⟩=false/\w.frozen? ⟨b,7,none⟩=false/\w.frozen? ⟨b,8,none⟩=false/\w.frozen? ⟨b,9,none⟩=false/\w.frozen? ⟨b,10,none⟩=false/\w.frozen? ⟨b,11,none⟩=false/\w.frozen? ⟨b,12,none⟩=false/\w.frozen? ⟨b,13,none⟩=false/\w.frozen? ⟨b,14,none⟩=false/\b<w.heap.size:=
 ⟨frozen_of_row w b 0 _ _ h,frozen_of_row w b 1 _ _ h,frozen_of_row w b 2 _ _ h,frozen_of_row w b 3 _ _ h,frozen_of_row w b 4 _ _ h,frozen_of_row w b 5 _ _ h,frozen_of_row w b 6 _ _ h,frozen_of_row w b 7 _ _ h,frozen_of_row w b 8 _ _ h,frozen_of_row w b 9 _ _ h,frozen_of_row w b 10 _ _ h,frozen_of_row w b 11 _ _ h,frozen_of_row w b 12 _ _ h,frozen_of_row w b 13 _ _ h,frozen_of_row w b 14 _ _ h,aj h⟩
theorem s15{w:World}{b:Nat}{x0 x1 x2 x3 x4 x5 x6 x7 x8 x9 x10 pz TW T9 XV:Value}{T:TypeId}(h:w.heap[b]?=some (.cells #[x0,x1,x2,x3,x4,x5,x6,x7,x8,x9,x10,pz,TW,T9,XV] T (0,0)))(u0 u1 u2 u3 u4 u5 u6 u7 u8 u9 Mr Ms Mt Mv Mw:Value):
  (((((((((((((((w.setCell ⟨b,0,none⟩ u0).setCell ⟨b,1,none⟩ u1).setCell ⟨b,2,none⟩ u2).setCell ⟨b,3,none⟩ u3).setCell ⟨b,4,none⟩ u4).setCell ⟨b,5,none⟩ u5).setCell ⟨b,6,none⟩ u6).setCell ⟨b,7,none⟩ u7).setCell ⟨b,8,none⟩ u8).setCell ⟨b,9,none⟩ u9).setCell ⟨b,10,none⟩ Mr).setCell ⟨b,11,none⟩ Ms).setCell ⟨b,12,none⟩ Mt).setCell ⟨b,13,none⟩ Mv).setCell ⟨b,14,none⟩ Mw).heap[b]?=some (.cells #[u0,u1,u2,u3,u4,u5,u6,u7,u8,u9,Mr,Ms,Mt,Mv,Mw] T (0,0))/\ai [b] w (((((((((((((((w.setCell ⟨b,0,none⟩ u0).setCell ⟨b,1,none⟩ u1).setCell ⟨b,2,none⟩ u2).setCell ⟨b,3,none⟩ u3).setCell ⟨b,4,none⟩ u4).setCell ⟨b,5,none⟩ u5).setCell ⟨b,6,none⟩ u6).setCell ⟨b,7,none⟩ u7).setCell ⟨b,8,none⟩ u8).setCell ⟨b,9,none⟩ u9).setCell ⟨b,10,none⟩ Mr).setCell ⟨b,11,none⟩ Ms).setCell ⟨b,12,none⟩ Mt).setCell ⟨b,13,none⟩ Mv).setCell ⟨b,14,none⟩ Mw):=by
 have h0:=heap_setCell_same w b 0 _ T u0 h;have h1:=heap_setCell_same _ b 1 _ T u1 h0;have h2:=heap_setCell_same _ b 2 _ T u2 h1;have h3:=heap_setCell_same _ b 3 _ T u3 h2;have h4:=heap_setCell_same _ b 4 _ T u4 h3;have h5:=heap_setCell_same _ b 5 _ T u5 h4;have h6:=heap_setCell_same _ b 6 _ T u6 h5;have h7:=heap_setCell_same _ b 7 _ T u7 h6;have h8:=heap_setCell_same _ b 8 _ T u8 h7;have h9:=heap_setCell_same _ b 9 _ T u9 h8;have h10:=heap_setCell_same _ b 10 _ T Mr h9;have h11:=heap_setCell_same _ b 11 _ T Ms h10;have h12:=heap_setCell_same _ b 12 _ T Mt h11;have h13:=heap_setCell_same _ b 13 _ T Mv h12;have h14:=heap_setCell_same _ b 14 _ T Mw h13;exact⟨by simpa using h14,((((((((((((((((ai.refl [b] w).setCell (.inl (by simp)) _).setCell (.inl (by simp)) _).setCell (.inl (by simp)) _).setCell (.inl (by simp)) _).setCell (.inl (by simp)) _).setCell (.inl (by simp)) _).setCell (.inl (by simp)) _).setCell (.inl (by simp)) _).setCell (.inl (by simp)) _).setCell (.inl (by simp)) _).setCell (.inl (by simp)) _).setCell (.inl (by simp)) _).setCell (.inl (by simp)) _).setCell (.inl (by simp)) _).setCell (.inl (by simp)) _)⟩
theorem jZ.start{t:Option (List bG)}{w w1 w':World}{e:Ending}(h:jZ t w1 e w')(ho:ai [] w w1):jZ t w e w':=by
 cases t with
 |none=>exact⟨h.1,ho.trans h.2⟩
 |some l=>
  obtain⟨⟨v,h1,h2⟩,h3⟩:=h;exact⟨⟨v,h1,h2.mono ho.size⟩,ho.trans h3⟩
theorem qN(s:ByteArray)(w:World)(hs:s.size<=140737488351232): ∃w1 c,(convert 9 23 (.string s)).run Tryz.prog w=.ok (.slice (some ⟨w.heap.size,0,none⟩) s.size c) w1/\ai [] w w1/\
  Calls Tryz.prog 164 #[.slice (some ⟨w.heap.size,0,none⟩) s.size c] w1 (jZ (sj (ak s)) w):=by
 obtain⟨w1,c,h1,h2,h3,h4,h5⟩:=nG s w;refine⟨w1,c,h1,h4,(tH w1 _ _ h2 (fun b hb=>?_) h3 (bN s) (by rw[dM];exact hs)).mono fun _ _ hp=>hp.start h4⟩;simp[Value.ownBlock]at hb;omega
def F4(ok:Bool)(l:List bG)(w:World)(e:Ending)(w':World):Prop:=
 match ok with
 |true=>(∃kv vv,e=.returned (.tuple #[kv,vv,.int .i64 0])/\Sl 100 fL 4 w.heap.size w' kv (aX l 1)/\Sl 100 fL 4 w.heap.size w' vv (aX l 2))/\ai [] w w'
 |false=>(∃ec:Int,ec≠0/\e=.returned (.tuple #[.slice none 0 0,.slice none 0 0,.int .i64 ec]))/\ai [] w w'
theorem AY{ok:Bool}{l:List bG}{w w':World}{ec:Int}(h:ok=false)(ay:ec≠0)(ho:ai [] w w'):F4 ok l w (.returned (.tuple #[.slice none 0 0,.slice none 0 0,.int .i64 ec])) w':=by subst h;exact⟨⟨ec,ay,rfl⟩,ho⟩
def tL(f:bG):Bool:=(f.num==1||f.num==2)&&f.kind !=2
theorem vI(l:List bG):tC l=(l.all (fun f=> !tL f)&&decide ((aX l 1).length<=32)&&decide ((aX l 2).length<=32)&&decide ((aX l 1).length=(aX l 2).length)):=rfl
theorem F5(v:Value)(l:List bG)(w:World)(h:aA fL w v l)(hl:l.length<=256):
  Calls Tryz.prog 399 #[v] w (F4 (tC l) l w):=by
 obtain⟨sa,sc,rfl⟩:=h.form;have cA:=af (fun n W (ho:ai [] w W)=>qf _ l n W (h.nil' ho) hl);rw[vI];generalize hF1:aX l 1=K at*;generalize hF2:aX l 2=V at*;obtain⟨R,hR⟩: ∃R,(l.all (fun f=> !tL f)&&decide (K.length<=32)&&decide (V.length<=32)&&decide (K.length=V.length))=R:=⟨_,rfl⟩;rw[hR];change Hid _ at hF1 hF2 hR;go_enter Tryz.func399,Tryz.ntmps399
 go_wp2_with fail
 go_loopg[11] l.length (fun g s11 wr=> ∃k:Nat,k<=l.length/\g=l.length-k/\s11=.int .i64 k/\Aside (ai [] w wr/\(l.take k).all (fun f=> !tL f)=true))
 case atStart=>exact⟨0,by omega,by omega,rfl,ai.refl _ _,by simp⟩
 case round=>
  obtain⟨k,hk,rfl,rfl,hO,hgood⟩:=hrel;have k0:(0:Int)<=k:=by omega
  by_cases hlt:k<l.length
  ·have k1:(k:Int)<l.length:=by omega
   have hwk:IntKind.i64.wrap ((k:Int)+1)=(k:Int)+1:=IntWalk.i64_in _ (by omega);obtain⟨b,o,rfl,c0,c1,c2,c3⟩:=(h.nil' hO).fld hlt;have hnext:tL l[k]=false->(l.take (k+1)).all (fun f=> !tL f)=true:=fun hh=>by
    rw[List.take_succ_eq_append_getElem hlt,List.all_append,hgood];simp[hh]
   have hall:tL l[k]=true->l.all (fun f=> !tL f)=false:=fun hh=>by
    rw[List.all_eq_false];exact⟨l[k],List.getElem_mem hlt,by simp[hh]⟩
   generalize l[k]=f at*;obtain⟨f1,f2,f3,f4⟩:=f;simp only at c0 c1 c2 c3;have hA:=(ai.refl [] wr).alloc (.cells #[.int .i64 f1,.int .i64 f2,.int .u64 f3,.string f4] 100);obtain⟨⟨d0,d1,d2,d3⟩,_⟩:=q4 (heap_alloc_new wr (.cells #[.int .i64 f1,.int .i64 f2,.int .u64 f3,.string f4] 100));have hO2:=af (hO.trans hA);unfold tL at hnext hall;simp only at hnext hall;clear hA hO hgood h;cases q1:f1==1<;>cases q2:f1==2<;>cases qk:f2 !=2;all_goals
    rw[q1,q2,qk]at hnext hall
    first
     |(have hg:=af (hnext rfl)
       clear hnext hall;go_wp2_with fail
       go_roundg(l.length-(k+1))
       case measure=>omega
       case rel=>exact⟨k+1,by omega,rfl,by simp,hO2.out,hg.out⟩)
     |(have hg:=hall rfl
       have H9:R=false:=by
        have hr:=hR.out;rw[show(l.all fun f=> !tL f)=false from hg]at hr;simpa using hr.symm
       change Hid _ at H9;clear hnext hall hg;go_wp2_with fail
       go_ret3
       exact AY H9.out (by decide) hO2.out)
  ·have k1: ¬(k:Int)<l.length:=by omega
   rw[List.take_of_length_le (by omega)]at hgood;have hR2:=hR.out;rw[hgood]at hR2;change Hid _ at hR2;have hOh:=af hO;clear h hgood hR;go_wp2_with fail
   refine(cA.out 1 wr hOh.out).mono ?_;rintro e w1 ⟨kv,rfl,hS1,aH⟩;rw[hF1.out]at hS1;obtain⟨ka,kc,rfl⟩:=hS1.sl;have Y2:=hOh.out.trans aH;replace hS1:=hS1.mono hOh.out.size;replace hS1:=af hS1;have Uk:=af Y2;clear aH Y2 hOh;go_wp2_with fail
   refine(cA.out 2 w1 Uk.out).mono ?_;rintro e w2 ⟨vv,rfl,hS2,hO2⟩;rw[hF2.out]at hS2;obtain⟨va,vc,rfl⟩:=hS2.sl;have Ul:=af (Uk.out.trans hO2);have QI:=af (hS1.out.nil' hO2);replace hS2:=hS2.mono Uk.out.size;change Hid _ at hS2;clear hO2 hS1 Uk cA;by_cases h1:(32:Int)<K.length
   ·have H9:R=false:=by
     have hr:=hR2.out;rw[show decide (K.length<=32)=false by simp;omega]at hr;simpa using hr.symm
    change Hid _ at H9;clear hR2 QI hS2;generalize K.length=n1 at*;generalize V.length=n2 at*;go_wp2_with fail
    go_ret3
    exact AY H9.out (by decide) Ul.out
   ·by_cases h2:(32:Int)<V.length
    ·have H9:R=false:=by
      have hr:=hR2.out;rw[show decide (V.length<=32)=false by simp;omega]at hr;simpa using hr.symm
     change Hid _ at H9;clear hR2 QI hS2;generalize K.length=n1 at*;generalize V.length=n2 at*;go_wp2_with fail
     go_ret3
     exact AY H9.out (by decide) Ul.out
    ·by_cases h3:K.length=V.length
     ·have Et:R=true:=by
       have hr:=hR2.out;rw[show decide (K.length<=32)=true by simp;omega,show decide (V.length<=32)=true by simp;omega,show decide (K.length=V.length)=true by simpa using h3]at hr;exact hr.symm
      change Hid _ at Et;have q:((K.length:Int)!=(V.length:Int))=false:=by simp[h3]
      have h3':=af h3;clear hR2 h3;have hfin:Hid (F4 true l w (.returned (.tuple #[.slice ka K.length kc,.slice va V.length vc,.int .i64 0])) w2):=af ⟨⟨_,_,rfl,by rw[hF1.out];exact QI.out,by rw[hF2.out];exact hS2.out⟩,Ul.out⟩;clear QI hS2;generalize K.length=n1 at*;generalize V.length=n2 at*;go_wp2_with fail
      go_ret3
      rw[Et.out];exact hfin.out
     ·have H9:R=false:=by
       have hr:=hR2.out;rw[show decide (K.length=V.length)=false by simpa using h3]at hr;simpa using hr.symm
      have q:((K.length:Int)!=(V.length:Int))=true:=by simp;omega
      change Hid _ at H9;clear hR2 QI hS2 h3;generalize K.length=n1 at*;generalize V.length=n2 at*;go_wp2_with fail
      go_ret3
      exact AY H9.out (by decide) Ul.out
structure OH where
 key:ByteArray
 ty:Int
 nu:Bool
 k:Int
 n:Int
 s:ByteArray
 a:Option Addr
 l:Nat
 c:Nat
def OH.zero:OH:=⟨⟨#[]⟩,0,false,0,0,⟨#[]⟩,none,0,0⟩
def Ky(x:OH):List Value:=[.string x.key,.int .u32 x.ty,.bool x.nu,.int .i64 x.k,.int .u64 x.n,.string x.s,.slice x.a x.l x.c]
def A7(ok:Bool)(w:World)(e:Ending)(w':World):Prop:=
 match ok with
 |true=>(∃x:OH,e=.returned (.tuple #[.agg (Ky x).toArray,.int .i64 0]))/\ai [] w w'
 |false=>(∃(x:OH) (ec:Int),ec≠0/\e=.returned (.tuple #[.agg (Ky x).toArray,.int .i64 ec]))/\ai [] w w'
def j4(ok:Bool)(w:World)(e:Ending)(w':World):Prop:=
 match ok with
 |true=>(∃a n c,e=.returned (.tuple #[.slice a n c,.int .i64 0]))/\ai [] w w'
 |false=>(∃ec:Int,ec≠0/\e=.returned (.tuple #[.slice none 0 0,.int .i64 ec]))/\ai [] w w'
theorem j4.start{ok:Bool}{w w1 w':World}{e:Ending}(h:j4 ok w1 e w')(ho:ai [] w w1):j4 ok w e w':=by
 cases ok
 ·exact⟨h.1,ho.trans h.2⟩
 ·exact⟨h.1,ho.trans h.2⟩
theorem A9{ok:Bool}{w w':World}{ec:Int}(x:OH)(h:ok=false)(ay:ec≠0)(ho:ai [] w w'):A7 ok w (.returned (.tuple #[.agg (Ky x).toArray,.int .i64 ec])) w':=by subst h;exact⟨⟨x,ec,ay,rfl⟩,ho⟩
theorem OI{ok:Bool}{w w':World}(x:OH)(h:ok=true)(ho:ai [] w w'):A7 ok w (.returned (.tuple #[.agg (Ky x).toArray,.int .i64 0])) w':=by subst h;exact⟨⟨x,rfl⟩,ho⟩
def VN(g:List Int->Bool)(deep:Int):Prop:= ∀(t:ByteArray) (W:World),t.size<=4096->aN W-> ∃w1 c,(convert 9 23 (.string t)).run Tryz.prog W=.ok (.slice (some ⟨W.heap.size,0,none⟩) t.size c) w1/\ai [] W w1/\
 Calls Tryz.prog 391 #[.slice (some ⟨W.heap.size,0,none⟩) t.size c,.int .i64 deep] w1 (j4 (g (ak t)) W)
theorem Dl{x y:Bool×ByteArray}{f:bG}(h:bU x f=some y)(hx:x.2.size<=4096)(hf:f.Ok):y.2.size<=4096:=by
 unfold bU at h;split at h
 ·split at h
  ·simp only[Option.some.injEq]at h;subst h;exact hx
  ·cases h
 ·split at h
  ·split at h
   ·simp only[Option.some.injEq]at h;subst h;exact hx
   ·cases h
  ·split at h
   ·split at h
    ·simp only[Option.some.injEq]at h;subst h;exact hf.t
    ·cases h
   ·split at h
    ·obtain⟨v,_,rfl⟩:=Option.map_eq_some_iff.1 h
     exact hx
    ·simp only[Option.some.injEq]at h;subst h;exact hx
structure Ym (w wr:World) (rb xb:Nat) (l:List bG) (R:Option (Bool×ByteArray)) (k:Nat) (st:Bool×ByteArray):Prop where
 own:ai [] w wr
 res:wr.heap[rb]?=some (.cells #[.string ⟨#[]⟩,.int .u32 0,.bool false,.int .i64 0,.int .u64 0,.string ⟨#[]⟩,.slice none 0 0] 363 (0,0))
 fo: ∃x:Fo,mH wr xb x/\x.st=st
 now:(l.drop k).foldlM bU st=R
 sz:st.2.size<=4096
theorem Ym.step{w wr:World}{rb xb:Nat}{l:List bG}{R:Option (Bool×ByteArray)}{k:Nat}{st:Bool×ByteArray}(h:Ym w wr rb xb l R k st)(hk:k<l.length):
  (match bU st l[k]with|none=>R=none|some v'=>(l.drop (k+1)).foldlM bU v'=R):=by
 have:=h.now;rw[List.drop_eq_getElem_cons hk,List.foldlM_cons]at this;cases hv:bU st l[k]with
 |none=>rw[hv]at this;exact this.symm
 |some v'=>rw[hv]at this;exact this
theorem Kz(g:List Int->Bool)(deep:Int)(key s:ByteArray)(w:World)(hs:s.size<=4096)(hK:aN w)(hd:0<=deep/\deep<=100)(IH:VN g (deep+1)):
  Calls Tryz.prog 400 #[.string key,.string s,.int .i64 deep] w (A7 (xC g (ak s)) w):=by
 obtain⟨ok,hok⟩: ∃ok,xC g (ak s)=ok:=⟨_,rfl⟩;rw[hok];unfold xC at hok;have hA:=(ai.refl [] w).alloc (.cells #[.string ⟨#[]⟩,.int .u32 0,.bool false,.int .i64 0,.int .u64 0,.string ⟨#[]⟩,.slice none 0 0] 363);have fU:=heap_alloc_new w (.cells #[.string ⟨#[]⟩,.int .u32 0,.bool false,.int .i64 0,.int .u64 0,.string ⟨#[]⟩,.slice none 0 0] 363);obtain⟨w1,c,hcv,aH,cW⟩:=qN s (w.alloc (.cells #[.string ⟨#[]⟩,.int .u32 0,.bool false,.int .i64 0,.int .u64 0,.string ⟨#[]⟩,.slice none 0 0] 363)) (by omega);rw[show(w.alloc (.cells #[.string ⟨#[]⟩,.int .u32 0,.bool false,.int .i64 0,.int .u64 0,.string ⟨#[]⟩,.slice none 0 0] 363)).heap.size=w.heap.size+1 by simp]at hcv cW;replace cW:=af cW;go_enter Tryz.func400,Tryz.ntmps400
 go_wp2_with fail
 refine cW.out.mono ?_;intro e w2 hp;have Js:=af hK;clear hK cW hcv;cases hw:sj (ak s)with
 |none=>
  rw[hw]at hp hok;obtain⟨⟨ec,ay,rfl⟩,hO2⟩:=hp;simp only at hok;replace hok:=af hok.symm;have hO3:=hA.trans hO2;have bY:=hO2.heap fU (by simp);obtain⟨r0,r1,r2,r3,r4,r5,r6⟩:=c7 bY;obtain⟨y0,y1,y2,y3,y4,y5,y6,_⟩:=z7 bY;obtain⟨hs7,oO⟩:=s7 bY (.string ⟨#[]⟩) (.int .u32 0) (.bool false) (.int .i64 0) (.int .u64 0) (.string ⟨#[]⟩) (.slice none 0 0);change Hid _ at hs7;replace oO:=af (hO3.trans' oO (fun x hx=>.inr (by simp at hx;omega)));have q:(ec !=0)=true:=by simpa using ay
  change Hid _ at ay;clear hA aH hO2 fU bY hO3;go_wp2_with fail
  obtain⟨g0,g1,g2,g3,g4,g5,g6⟩:=c7 hs7.out;exact bodyPost_ret (v:=.tuple #[.agg #[.string ⟨#[]⟩,.int .u32 0,.bool false,.int .i64 0,.int .u64 0,.string ⟨#[]⟩,.slice none 0 0],.int .i64 ec]) (by simp[results,Tryz.results400,go_sem,g0,g1,g2,g3,g4,g5,g6];try rfl) rfl (A9 OH.zero hok.out ay.out oO.out)
 |some l=>
  rw[hw]at hp hok;obtain⟨⟨aT,rfl,hS⟩,hO2⟩:=hp;have hO3:=hA.trans hO2;have bY:=hO2.heap fU (by simp);obtain⟨hl,hf⟩:=mG (bN s) hw;obtain⟨R,hR⟩: ∃R,l.foldlM bU (false,⟨#[]⟩)=R:=⟨_,rfl⟩;simp only[hR]at hok;obtain⟨va,vc,rfl⟩:=hS.sl;have sG:=hS.reads dX;have hJ0:Ym w (w2.alloc (.cells #[.string key,.int .u32 0,.bool false,.int .i64 0,.int .u64 0,.string ⟨#[]⟩,.slice none 0 0,.string ⟨#[]⟩] 557)) w.heap.size w2.heap.size l R 0 (false,⟨#[]⟩):=
   ⟨hO3.alloc _,((ai.refl [] w2).alloc _).heap bY (by simp),⟨⟨key,0,false,PV.zero,⟨#[]⟩⟩,heap_alloc_new _ _,rfl⟩,by rw[List.drop_zero];exact hR,Nat.zero_le _⟩
  have Uq:=sG.nil' ((ai.refl [] w2).alloc (.cells #[.string key,.int .u32 0,.bool false,.int .i64 0,.int .u64 0,.string ⟨#[]⟩,.slice none 0 0,.string ⟨#[]⟩] 557));have hwx:w.heap.size<=w2.heap.size:=hO3.size;have ad9:w.heap.size<w2.heap.size:=aj bY;have hvb: ∀b,(Value.slice va l.length vc).ownBlock=some b->b<w2.heap.size:=fun b hb=>(hS.block hb).2
  change Hid _ at hvb hJ0 hok hR hf;replace Uq:=af Uq;clear aH hO2 hO3 hA fU bY hS sG hw;go_wp2_with fail
  generalize(w2.alloc (.cells #[.string key,.int .u32 0,.bool false,.int .i64 0,.int .u64 0,.string ⟨#[]⟩,.slice none 0 0,.string ⟨#[]⟩] 557))=w3 at*;generalize w2.heap.size=xb at*;generalize hrb:w.heap.size=rb at*;go_loopg[30] l.length (fun g s30 wr=> ∃(k:Nat) (st:Bool×ByteArray),k<=l.length/\g=l.length-k/\s30=.int .i64 k/\Aside (Ym w wr rb xb l R k st/\ai [xb] w3 wr))
  case atStart=>exact⟨0,_,by omega,by omega,rfl,hJ0.out,ai.refl _ _⟩
  case round=>
   obtain⟨k,st,hk,rfl,rfl,hJ,eu⟩:=hrel;have k0:(0:Int)<=k:=by omega
   by_cases hlt:k<l.length
   ·have k1:(k:Int)<l.length:=by omega
    have hwk:IntKind.i64.wrap ((k:Int)+1)=(k:Int)+1:=IntWalk.i64_in _ (by omega);obtain⟨x,hx,abD⟩:=hJ.fo;have sG:=Uq.out.own eu (fun b hb=>by have:=hvb.out b hb;simp;omega);obtain⟨b,o,rfl,c0,c1,c2,c3⟩:=sG.fld hlt;have hst:=hJ.step hlt;have hF:=hf.out l[k] (List.getElem_mem hlt);have hxl:=aj hx;have hrl:=aj hJ.res;generalize l[k]=f at*;have hA:=(ai.refl [] wr).alloc (.cells (fL f).toArray 100);have cT:=Kv xb x f _ (hx.own hA (by simp)) hF (Js.out.own (hJ.own.trans hA));rw[abD]at cT;have hres2:=hA.heap hJ.res (by simp);have dw:=hJ.own.trans hA;obtain⟨⟨d0,d1,d2,d3⟩,_⟩:=q4 (heap_alloc_new wr (.cells (fL f).toArray 100));have hsz2:=hA.size;have WN:=fun st'=> @Dl _ st st' f
    have hsz:=hJ.sz;obtain⟨f1,f2,f3,f4⟩:=f;unfold fL at*;simp only at*;unfold gP at cT;cases hv:bU st ⟨f1,f2,f3,f4⟩with
    |none=>
     rw[hv]at cT hst;simp only at hst;subst hst;have aF:=hok.out;simp only at aF;replace aF:=af aF.symm;replace cT:=af cT;clear hv WN hsz sG hx hok hR hJ0;go_wp2_with fail
     refine cT.out.mono ?_;rintro e w4 ⟨⟨ec,ay,rfl⟩,hO4⟩;have rP:=hO4.heap hres2 (by simp;omega);have aB:=dw.trans' hO4 (fun y hy=>.inr (by simp at hy;omega));obtain⟨r0,r1,r2,r3,r4,r5,r6⟩:=c7 rP;obtain⟨y0,y1,y2,y3,y4,y5,y6,_⟩:=z7 rP;obtain⟨hs7,oO⟩:=s7 rP (.string ⟨#[]⟩) (.int .u32 0) (.bool false) (.int .i64 0) (.int .u64 0) (.string ⟨#[]⟩) (.slice none 0 0);change Hid _ at hs7;replace oO:=af (aB.trans' oO (fun x hx=>.inr (by simp at hx;omega)));have q:(ec !=0)=true:=by simpa using ay
     change Hid _ at ay;clear hJ eu hres2 dw hO4 rP aB hA cT;go_wp2_with fail
     obtain⟨g0,g1,g2,g3,g4,g5,g6⟩:=c7 hs7.out;exact bodyPost_ret (v:=.tuple #[.agg #[.string ⟨#[]⟩,.int .u32 0,.bool false,.int .i64 0,.int .u64 0,.string ⟨#[]⟩,.slice none 0 0],.int .i64 ec]) (by simp[results,Tryz.results400,go_sem,g0,g1,g2,g3,g4,g5,g6];try rfl) rfl (A9 OH.zero aF.out ay.out oO.out)
    |some st'=>
     rw[hv]at cT hst;simp only at hst;have Y9:=WN st' hv hsz hF;change Hid _ at hst;replace cT:=af cT;clear hv WN hsz sG hx;go_wp2_with fail
     refine cT.out.mono ?_;rintro e w4 ⟨⟨rfl,x',hx',Za⟩,hO4⟩;have rP:=hO4.heap hres2 (by simp;omega);have aB:=dw.trans' hO4 (fun y hy=>.inr (by simp at hy;omega));have wH:=af (show Ym w w4 rb xb l R (k+1) st' from⟨aB,rP,⟨x',hx',Za⟩,hst.out,Y9⟩);have abE:=af ((eu.trans (hA.nil)).trans hO4);clear hJ eu hres2 dw hO4 rP aB hA cT hx' hst Y9;go_wp2_with fail
     go_roundg(l.length-(k+1))
     case measure=>omega
     case rel=>exact⟨k+1,st',by omega,rfl,by simp,wH.out,abE.out⟩
   ·have k1: ¬(k:Int)<l.length:=by omega
    have ru:=hJ.now;rw[List.drop_of_length_le (by omega)]at ru;have hRs:R=some st:=ru.symm;subst hRs;have hok2:=hok.out;simp only at hok2;obtain⟨x,hx,rfl⟩:=hJ.fo;have hxl:=aj hx;have hrl:=aj hJ.res;obtain⟨e0,e1,e2,e3,e4,e5,e6,e7⟩:=c8 hx;unfold Fo.st at hok2;simp only at hok2;have hres:=hJ.res;have aB:=hJ.own;have hsz:=hJ.sz;clear ru hok hR hJ0 hJ Uq;by_cases h8:x.v.k=8
    ·have q8:(x.v.k !=8)=false:=by simp[h8]
     rw[show(x.v.k==8)=true by simpa using h8]at hok2;simp only[Bool.not_true,Bool.false_or]at hok2;unfold Fo.st at hsz;simp only at hsz;obtain⟨w5,c5,hcv,bI,cP⟩:=IH x.set wr hsz (Js.out.own aB);have hwd:IntKind.i64.wrap (deep+1)=deep+1:=IntWalk.i64_in _ (by omega);rw[hok2]at cP;have hx6:=hx;replace cP:=af cP;replace hx6:=af hx6;clear hx IH hok2 h8;go_wp2_with fail
     refine cP.out.mono ?_;intro e w6 hp;cases ok with
     |false=>
      obtain⟨⟨ec,ay,rfl⟩,gU⟩:=hp;have Ew:=gU.heap hres (by simp);have WO:=hx6.out.own gU (by simp);obtain⟨j6,n6⟩:=WO.cell 6 (u:=.slice none 0 0) rfl;obtain⟨Ur,iV⟩:(w6.setCell ⟨xb,6,none⟩ (.slice none 0 0)).heap[xb]?=_/\ai [xb] w6 (w6.setCell ⟨xb,6,none⟩ (.slice none 0 0)):=⟨heap_setCell_same w6 xb 6 _ _ (.slice none 0 0) WO,(ai.refl [xb] w6).setCell (.inl (by simp)) _⟩;have uw:=iV.heap Ew (by simp;omega);have o7:=(aB.trans gU).trans' iV (fun y hy=>.inr (by simp at hy;omega));obtain⟨r0,r1,r2,r3,r4,r5,r6⟩:=c7 uw;obtain⟨y0,y1,y2,y3,y4,y5,y6,_⟩:=z7 uw;obtain⟨hs7,oO⟩:=s7 uw (.string ⟨#[]⟩) (.int .u32 0) (.bool false) (.int .i64 0) (.int .u64 0) (.string ⟨#[]⟩) (.slice none 0 0);change Hid _ at hs7;replace oO:=af (o7.trans' oO (fun x hx=>.inr (by simp at hx;omega)));have q:(ec !=0)=true:=by simpa using ay
      change Hid _ at ay;clear hres Ew uw aB bI gU iV o7 WO Ur hcv;go_wp2_with fail
      obtain⟨g0,g1,g2,g3,g4,g5,g6⟩:=c7 hs7.out;exact bodyPost_ret (v:=.tuple #[.agg #[.string ⟨#[]⟩,.int .u32 0,.bool false,.int .i64 0,.int .u64 0,.string ⟨#[]⟩,.slice none 0 0],.int .i64 ec]) (by simp[results,Tryz.results400,go_sem,g0,g1,g2,g3,g4,g5,g6];try rfl) rfl (A9 OH.zero rfl ay.out oO.out)
     |true=>
      obtain⟨⟨a6,l6,k6,rfl⟩,gU⟩:=hp;have Ew:=gU.heap hres (by simp);have WO:=hx6.out.own gU (by simp);obtain⟨j6,n6⟩:=WO.cell 6 (u:=.slice none 0 0) rfl;obtain⟨Ur,iV⟩:(w6.setCell ⟨xb,6,none⟩ (.slice a6 l6 k6)).heap[xb]?=_/\ai [xb] w6 (w6.setCell ⟨xb,6,none⟩ (.slice a6 l6 k6)):=⟨heap_setCell_same w6 xb 6 _ _ (.slice a6 l6 k6) WO,(ai.refl [xb] w6).setCell (.inl (by simp)) _⟩;have Zb:(w6.setCell ⟨xb,6,none⟩ (.slice a6 l6 k6)).heap[xb]?=some (.cells #[.string x.key,.int .u32 x.ty,.bool x.nu,.int .i64 x.v.k,.int .u64 x.v.n,.string x.v.s,.slice a6 l6 k6,.string x.set] 557 (0,0)):=Ur;obtain⟨p0,p1,p2,p3,p4,p5,p6,p7⟩:=c8 Zb;have uw:=iV.heap Ew (by simp;omega);have o7:=(aB.trans gU).trans' iV (fun y hy=>.inr (by simp at hy;omega));obtain⟨r0,r1,r2,r3,r4,r5,r6⟩:=c7 uw;obtain⟨y0,y1,y2,y3,y4,y5,y6,_⟩:=z7 uw;obtain⟨hs7,oO⟩:=s7 uw (.string x.key) (.int .u32 x.ty) (.bool x.nu) (.int .i64 x.v.k) (.int .u64 x.v.n) (.string x.v.s) (.slice a6 l6 k6);change Hid _ at hs7;replace oO:=af (o7.trans' oO (fun x hx=>.inr (by simp at hx;omega)));clear hres Ew uw aB bI gU iV o7 WO Ur Zb hcv;go_wp2_with fail
      obtain⟨g0,g1,g2,g3,g4,g5,g6⟩:=c7 hs7.out;exact bodyPost_ret (v:=.tuple #[.agg #[.string x.key,.int .u32 x.ty,.bool x.nu,.int .i64 x.v.k,.int .u64 x.v.n,.string x.v.s,.slice a6 l6 k6],.int .i64 0]) (by simp[results,Tryz.results400,go_sem,g0,g1,g2,g3,g4,g5,g6];try rfl) rfl (OI ⟨x.key,x.ty,x.nu,x.v.k,x.v.n,x.v.s,a6,l6,k6⟩ rfl oO.out)
    ·have q8:(x.v.k !=8)=true:=by simpa using h8
     rw[show(x.v.k==8)=false by simpa using h8]at hok2;have jd:=hok2.symm;simp only[Bool.not_false,Bool.true_or]at jd;change Hid _ at jd;obtain⟨r0,r1,r2,r3,r4,r5,r6⟩:=c7 hres;obtain⟨y0,y1,y2,y3,y4,y5,y6,_⟩:=z7 hres;obtain⟨hs7,oO⟩:=s7 hres (.string x.key) (.int .u32 x.ty) (.bool x.nu) (.int .i64 x.v.k) (.int .u64 x.v.n) (.string x.v.s) (.slice none 0 0);change Hid _ at hs7;replace oO:=af (aB.trans' oO (fun x hx=>.inr (by simp at hx;omega)));clear hx hres aB h8 hok2;go_wp2_with fail
     obtain⟨g0,g1,g2,g3,g4,g5,g6⟩:=c7 hs7.out;exact bodyPost_ret (v:=.tuple #[.agg #[.string x.key,.int .u32 x.ty,.bool x.nu,.int .i64 x.v.k,.int .u64 x.v.n,.string x.v.s,.slice none 0 0],.int .i64 0]) (by simp[results,Tryz.results400,go_sem,g0,g1,g2,g3,g4,g5,g6];try rfl) rfl (OI ⟨x.key,x.ty,x.nu,x.v.k,x.v.n,x.v.s,none,0,0⟩ jd.out oO.out)
def AZ(ok:Bool)(w:World)(e:Ending)(w':World):Prop:=
 match ok with
 |true=>e=.returned (.int .i64 0)/\ai [] w w'
 |false=>(∃ec:Int,ec≠0/\e=.returned (.int .i64 ec))/\ai [] w w'
theorem Di{ok:Bool}{w w':World}(h:ok=true)(ho:ai [] w w'):AZ ok w (.returned (.int .i64 0)) w':=by subst h;exact⟨rfl,ho⟩
theorem xI{ok:Bool}{w w':World}{ec:Int}(h:ok=false)(ay:ec≠0)(ho:ai [] w w'):AZ ok w (.returned (.int .i64 ec)) w':=by subst h;exact⟨⟨ec,ay,rfl⟩,ho⟩
theorem Dk(f:bG)(w:World):Calls Tryz.prog 414 #[.agg (fL f).toArray] w (AZ (iP f) w):=by
 have hA:=(ai.refl [] w).alloc (.cells (fL f).toArray 100);obtain⟨⟨d0,d1,d2,d3⟩,-⟩:=q4 (heap_alloc_new w (.cells (fL f).toArray 100));obtain⟨n,k,v,t⟩:=f;unfold fL at*;simp only at*;obtain⟨ok,hok⟩: ∃ok,iP ⟨n,k,v,t⟩=ok:=⟨_,rfl⟩;rw[hok];change Hid _ at hA;by_cases h1:n=1
 ·subst h1
  by_cases hk:k=0
  ·subst hk
   have ho:=af (show ok=true by rw[<-hok];simp[iP]);clear hok;go_enter Tryz.func414,Tryz.ntmps414
   go_wp2_with fail
   go_ret
   exact Di ho.out hA.out
  ·have ho:=af (show ok=false by rw[<-hok];simp[iP,hk])
   have q:(k !=0)=true:=by simpa using hk
   clear hok hk;go_enter Tryz.func414,Tryz.ntmps414
   go_wp2_with fail
   go_ret
   exact xI ho.out (by decide) hA.out
 by_cases h3:n=3
 ·subst h3
  by_cases hk:k=0
  ·subst hk
   by_cases hv:v<=4294967295
   ·have ho:=af (show ok=true by rw[<-hok];simp[iP,hv])
    have hv2: ¬4294967295<v:=by omega
    clear hok;go_enter Tryz.func414,Tryz.ntmps414
    go_wp2_with fail
    go_ret
    exact Di ho.out hA.out
   ·have ho:=af (show ok=false by rw[<-hok];simp[iP,hv])
    have hv2:4294967295<v:=by omega
    clear hok hv;go_enter Tryz.func414,Tryz.ntmps414
    go_wp2_with fail
    go_ret
    exact xI ho.out (by decide) hA.out
  ·have ho:=af (show ok=false by rw[<-hok];simp[iP,hk])
   have q:(k !=0)=true:=by simpa using hk
   clear hok hk;go_enter Tryz.func414,Tryz.ntmps414
   go_wp2_with fail
   go_ret
   exact xI ho.out (by decide) hA.out
 by_cases h2:n=2
 ·subst h2
  by_cases hk:k=2
  ·subst hk
   have ho:=af (show ok=true by rw[<-hok];simp[iP]);clear hok;go_enter Tryz.func414,Tryz.ntmps414
   go_wp2_with fail
   go_ret
   exact Di ho.out hA.out
  ·have ho:=af (show ok=false by rw[<-hok];simp[iP,hk])
   have q:(k !=2)=true:=by simpa using hk
   clear hok hk;go_enter Tryz.func414,Tryz.ntmps414
   go_wp2_with fail
   go_ret
   exact xI ho.out (by decide) hA.out
 by_cases h4:n=4
 ·subst h4
  by_cases hk:k=2
  ·subst hk
   have ho:=af (show ok=true by rw[<-hok];simp[iP]);clear hok;go_enter Tryz.func414,Tryz.ntmps414
   go_wp2_with fail
   go_ret
   exact Di ho.out hA.out
  ·have ho:=af (show ok=false by rw[<-hok];simp[iP,hk])
   have q:(k !=2)=true:=by simpa using hk
   clear hok hk;go_enter Tryz.func414,Tryz.ntmps414
   go_wp2_with fail
   go_ret
   exact xI ho.out (by decide) hA.out
 have ho:=af (show ok=true by rw[<-hok];simp[iP,h1,h2,h3,h4]);have q1:(n==1)=false:=by simpa using h1
 have q2:(n==2)=false:=by simpa using h2
 have q3:(n==3)=false:=by simpa using h3
 have q4:(n==4)=false:=by simpa using h4
 clear hok h1 h2 h3 h4;go_enter Tryz.func414,Tryz.ntmps414
 go_wp2_with fail
 go_ret
 exact Di ho.out hA.out
def uS(l:List bG):Bool:=l.all iP&&decide ((aX l 2).length<=16)&&decide ((aX l 3).length<=16)&&decide ((aX l 4).length<=32)&&decide ((aX l 2).length=(aX l 3).length)&&decide (FM l=(aX l 2).length)
def F6(ok:Bool)(l:List bG)(w:World)(e:Ending)(w':World):Prop:=
 match ok with
 |true=>(∃a1 c1 a2 c2 a3 c3,e=.returned (.tuple #[.agg #[.slice a1 (aX l 2).length c1,.slice a2 (aX l 3).length c2,.slice a3 (aX l 4).length c3],.int .i64 0])/\aA fL w' (.slice a1 (aX l 2).length c1) (aX l 2)/\aA fL w' (.slice a2 (aX l 3).length c2) (aX l 3)/\aA fL w' (.slice a3 (aX l 4).length c3) (aX l 4))/\ai [] w w'
 |false=>(∃ec:Int,ec≠0/\e=.returned (.tuple #[.agg #[.slice none 0 0,.slice none 0 0,.slice none 0 0],.int .i64 ec]))/\ai [] w w'
theorem qj{ok:Bool}{l:List bG}{w w':World}{ec:Int}(h:ok=false)(ay:ec≠0)(ho:ai [] w w'):F6 ok l w (.returned (.tuple #[.agg #[.slice none 0 0,.slice none 0 0,.slice none 0 0],.int .i64 ec])) w':=by subst h;exact⟨⟨ec,ay,rfl⟩,ho⟩
theorem F7(v:Value)(l:List bG)(w:World)(h:aA fL w v l)(hl:l.length<=256):Calls Tryz.prog 401 #[v] w (F6 (uS l) l w):=by
 obtain⟨sa,sc,rfl⟩:=h.form;have hA:=(ai.refl [] w).alloc (.cells #[.slice none 0 0,.slice none 0 0,.slice none 0 0] 544);have hrb:=heap_alloc_new w (.cells #[.slice none 0 0,.slice none 0 0,.slice none 0 0] 544);have cA:=af (fun n W (ho:ai [] w W)=>qf _ l n W (h.nil' ho) hl);have cL:=af (fun n W (ho:ai [] w W)=>Kr _ l n W (h.nil' ho) hl);obtain⟨ok,hok⟩: ∃ok,uS l=ok:=⟨_,rfl⟩;rw[hok];unfold uS at hok;have hw0:ai [] w (w.alloc (.cells #[.slice none 0 0,.slice none 0 0,.slice none 0 0] 544)):=hA;go_enter Tryz.func401,Tryz.ntmps401
 go_wp2_with fail
 generalize(w.alloc (.cells #[.slice none 0 0,.slice none 0 0,.slice none 0 0] 544))=w0 at*;generalize Um:w.heap.size=rb at*;change Hid _ at Um hok;go_loopg[12] l.length (fun g s12 wr=> ∃k:Nat,k<=l.length/\g=l.length-k/\s12=.int .i64 k/\Aside (ai [] w0 wr/\(l.take k).all iP=true))
 case atStart=>exact⟨0,by omega,by omega,rfl,ai.refl _ _,by simp⟩
 case round=>
  obtain⟨k,hk,rfl,rfl,hO,hgood⟩:=hrel;have k0:(0:Int)<=k:=by omega
  have hres:=hO.heap hrb (by simp);by_cases hlt:k<l.length
  ·have k1:(k:Int)<l.length:=by omega
   have hwk:IntKind.i64.wrap ((k:Int)+1)=(k:Int)+1:=IntWalk.i64_in _ (by omega);obtain⟨b,o,rfl,c0,c1,c2,c3⟩:=(h.nil' (hw0.trans hO)).fld hlt;have hnext:iP l[k]=true->(l.take (k+1)).all iP=true:=fun hh=>by
    rw[List.take_succ_eq_append_getElem hlt,List.all_append,hgood];simp[hh]
   have hbad:iP l[k]=false->ok=false:=fun hh=>by
    have hr:=hok.out;rw[show l.all iP=false by rw[List.all_eq_false];exact⟨l[k],List.getElem_mem hlt,by simp[hh]⟩]at hr;simpa using hr.symm
   generalize l[k]=f at*;have hA2:=(ai.refl [] wr).alloc (.cells (fL f).toArray 100);have cD:=Dk f (wr.alloc (.cells (fL f).toArray 100));obtain⟨⟨d0,d1,d2,d3⟩,-⟩:=q4 (heap_alloc_new wr (.cells (fL f).toArray 100));have hO2:=hO.trans hA2;have hres2:=hA2.heap hres (by simp);unfold AZ at cD;cases hd:iP f with
   |true=>
    rw[hd]at cD;have hg:=af (hnext hd);obtain⟨f1,f2,f3,f4⟩:=f;unfold fL at*;simp only at*;replace cD:=af cD;clear hnext hbad hd hgood hres hres2 hA2 hO h hA hw0 hrb;go_wp2_with fail
    refine cD.out.mono ?_;rintro e w5 ⟨rfl,aB⟩;have bI:=af (hO2.trans aB);clear aB hO2 d0 d1 d2 d3 cD;go_wp2_with fail
    go_roundg(l.length-(k+1))
    case measure=>omega
    case rel=>exact⟨k+1,by omega,rfl,by simp,bI.out,hg.out⟩
   |false=>
    rw[hd]at cD;have aF:=af (hbad hd);obtain⟨f1,f2,f3,f4⟩:=f;unfold fL at*;simp only at*;replace cD:=af cD;clear hnext hbad hd hgood hres hA2 hO h hA;go_wp2_with fail
    refine cD.out.mono ?_;rintro e w5 ⟨⟨ec,ay,rfl⟩,aB⟩;have aR:=aB.heap hres2 (by simp);have bI:=hw0.trans (hO2.trans aB);have q:(ec !=0)=true:=by simpa using ay
    have hrw:w.heap.size<=rb:=by rw[Um.out];exact Nat.le_refl _
    obtain⟨⟨r0,r1,r2⟩,y0,y1,y2,_⟩:=q3 aR;obtain⟨hs3,aJ⟩:=jg aR (.slice none 0 0) (.slice none 0 0) (.slice none 0 0);change Hid _ at hs3;replace aJ:=af (bI.trans' aJ (fun x hx=>.inr (by simp at hx;omega)));change Hid _ at ay;clear aB hO2 d0 d1 d2 d3 cD aR bI hres2 hw0 hrb hrw;go_wp2_with fail
    obtain⟨⟨g0,g1,g2⟩,_⟩:=q3 hs3.out;exact bodyPost_ret (v:=.tuple #[.agg #[.slice none 0 0,.slice none 0 0,.slice none 0 0],.int .i64 ec]) (by simp[results,Tryz.results401,go_sem,g0,g1,g2];try rfl) rfl (qj aF.out ay.out aJ.out)
  ·have k1: ¬(k:Int)<l.length:=by omega
   rw[List.take_of_length_le (by omega)]at hgood;have hok2:=hok.out;rw[hgood]at hok2;have gV:=hw0.trans hO;change Hid _ at hok2 hres;replace gV:=af gV;have hrw:w.heap.size<=rb:=by rw[Um.out];exact Nat.le_refl _
   clear hgood hok hO hw0 hA hrb h;go_wp2_with fail
   refine(cA.out 2 wr gV.out).mono ?_;rintro e w1 ⟨v1,rfl,hS1,aH⟩;obtain⟨a1,x1,rfl⟩:=hS1.sl;have gu:=af (hS1.reads dX);have Y3:rb<wr.heap.size:=aj hres.out;have hB1: ∀g,(Value.slice a1 (aX l 2).length x1).ownBlock=some g->g∉[rb]:=fun g hg=>by have:=(hS1.block hg).1;simp;omega
   have Y4:rb<w1.heap.size:=Nat.lt_of_lt_of_le Y3 aH.size;change Hid _ at hB1;replace aH:=af aH;clear hS1;go_wp2_with fail
   refine(cA.out 3 w1 (gV.out.trans aH.out)).mono ?_;rintro e w2 ⟨v2,rfl,hS2,hO2⟩;obtain⟨a2,x2,rfl⟩:=hS2.sl;have hR2:=af (hS2.reads dX);have hB2: ∀g,(Value.slice a2 (aX l 3).length x2).ownBlock=some g->g∉[rb]:=fun g hg=>by have:=(hS2.block hg).1;simp;omega
   have bY:rb<w2.heap.size:=Nat.lt_of_lt_of_le Y4 hO2.size;change Hid _ at hB2;replace hO2:=af hO2;clear hS2;go_wp2_with fail
   refine(cA.out 4 w2 (gV.out.trans (aH.out.trans hO2.out))).mono ?_;rintro e w3 ⟨v3,rfl,rO,hO3⟩;obtain⟨a3,x3,rfl⟩:=rO.sl;have eP:=af (rO.reads dX);have hB3: ∀g,(Value.slice a3 (aX l 4).length x3).ownBlock=some g->g∉[rb]:=fun g hg=>by have:=(rO.block hg).1;simp;omega
   change Hid _ at hB3 hO3;clear Y3 Y4 bY;clear rO;generalize hN:aX l 2=N at*;generalize hT:aX l 3=T at*;generalize WL:aX l 4=Rw at*;have hAs:=(ai.refl [] w3).alloc (.cells #[.slice a1 N.length x1,.slice a2 T.length x2,.slice a3 Rw.length x3] 544);have WM:=gV.out.trans (aH.out.trans (hO2.out.trans hO3.out));have hb3:=heap_alloc_new w3 (.cells #[.slice a1 N.length x1,.slice a2 T.length x2,.slice a3 Rw.length x3] 544);have cL1:=af (cL.out 1 _ (WM.trans hAs));have Vm:=hAs.heap ((aH.out.trans (hO2.out.trans hO3.out)).heap hres.out (by simp)) (by simp);have Y5:=af ((gu.out.nil' (hO2.out.trans hO3.out)).nil' hAs);have Y6:=af ((hR2.out.nil' hO3.out).nil' hAs);have QJ:=af (eP.out.nil' hAs);have Y7:=WM.trans hAs;change Hid _ at hN hT WL;clear gu hR2 eP cA cL aH hO2 hO3 WM gV hres hAs;go_wp2_with fail
   generalize(w3.alloc (.cells #[.slice a1 N.length x1,.slice a2 T.length x2,.slice a3 Rw.length x3] 544))=w4 at*;generalize w3.heap.size=sb at*;refine cL1.out.mono ?_;rintro e w5 ⟨⟨x,bx,rfl,hx⟩,aB⟩;obtain⟨x1',x2',xv,x4'⟩:=x;unfold fL;simp only at hx⊢;have hxq:FM l=xv:=by rw[hx];rfl
   have hb5:=aB.heap hb3 (by simp);have aR:=aB.heap Vm (by simp);have bI:=Y7.trans aB;have hAx:=(ai.refl [] w5).alloc (.cells #[.int .i64 x1',.int .i64 x2',.int .u64 xv,.string x4'] 100);have hb6:=hAx.heap hb5 (by simp);have fF:=hAx.heap aR (by simp);have gU:=bI.trans hAx;have um:=af ((Y5.out.nil' aB).nil' hAx);have uo:=af ((Y6.out.nil' aB).nil' hAx);have uq:=af ((QJ.out.nil' aB).nil' hAx);obtain⟨⟨f0,f1,f2,f3⟩,-⟩:=q4 (heap_alloc_new w5 (.cells #[.int .i64 x1',.int .i64 x2',.int .u64 xv,.string x4'] 100));obtain⟨⟨s0,s1,s2⟩,-⟩:=q3 hb6;have iU:=hok2.out;rw[hxq]at iU;change Hid _ at iU;clear hb3 hb5 Vm aR Y7 aB bI hAx Y5 Y6 QJ cL1 hx hxq hok2 hb6;change Hid _ at fF gU;go_upto_region 10 with(fail)
   generalize(w5.alloc (.cells #[.int .i64 x1',.int .i64 x2',.int .u64 xv,.string x4'] 100))=w6 at*;generalize w5.heap.size=xb at*;by_cases hm:N.length<T.length
   ·by_cases hT16:T.length<=16
    ·by_cases Un:Rw.length<=32
     ·have aF:=af (show ok=false by
       have hr:=iU.out;rw[show decide (N.length=T.length)=false by simp;omega]at hr;simpa using hr.symm)
      have i1:(T.length:Int)<=16:=by omega
      have i3:(Rw.length:Int)<=32:=by omega
      have i4:((N.length:Int)!=(T.length:Int))=true:=by simp;omega
      clear iU um uo uq;generalize N.length=n1 at*;generalize T.length=n2 at*;generalize Rw.length=n3 at*;obtain⟨⟨r0,r1,r2⟩,y0,y1,y2,_⟩:=q3 fF.out;obtain⟨hs3,aJ⟩:=jg fF.out (.slice none 0 0) (.slice none 0 0) (.slice none 0 0);change Hid _ at hs3;replace aJ:=af (gU.out.trans' aJ (fun x hx=>.inr (by simp at hx;omega)));clear fF gU;go_wp2_with fail
      obtain⟨⟨g0,g1,g2⟩,_⟩:=q3 hs3.out;exact bodyPost_ret (v:=.tuple #[.agg #[.slice none 0 0,.slice none 0 0,.slice none 0 0],.int .i64 4]) (by simp[results,Tryz.results401,go_sem,g0,g1,g2];try rfl) rfl (qj aF.out (by decide) aJ.out)
     ·have aF:=af (show ok=false by
       have hr:=iU.out;rw[show decide (Rw.length<=32)=false by simp;omega]at hr;simpa using hr.symm)
      have i1:(T.length:Int)<=16:=by omega
      have i3:(32:Int)<Rw.length:=by omega
      clear iU um uo uq;generalize N.length=n1 at*;generalize T.length=n2 at*;generalize Rw.length=n3 at*;obtain⟨⟨r0,r1,r2⟩,y0,y1,y2,_⟩:=q3 fF.out;obtain⟨hs3,aJ⟩:=jg fF.out (.slice none 0 0) (.slice none 0 0) (.slice none 0 0);change Hid _ at hs3;replace aJ:=af (gU.out.trans' aJ (fun x hx=>.inr (by simp at hx;omega)));clear fF gU;go_wp2_with fail
      obtain⟨⟨g0,g1,g2⟩,_⟩:=q3 hs3.out;exact bodyPost_ret (v:=.tuple #[.agg #[.slice none 0 0,.slice none 0 0,.slice none 0 0],.int .i64 6]) (by simp[results,Tryz.results401,go_sem,g0,g1,g2];try rfl) rfl (qj aF.out (by decide) aJ.out)
    ·have aF:=af (show ok=false by
      have hr:=iU.out;rw[show decide (T.length<=16)=false by simp;omega]at hr;simpa using hr.symm)
     have i1:(16:Int)<T.length:=by omega
     clear iU um uo uq;generalize N.length=n1 at*;generalize T.length=n2 at*;generalize Rw.length=n3 at*;obtain⟨⟨r0,r1,r2⟩,y0,y1,y2,_⟩:=q3 fF.out;obtain⟨hs3,aJ⟩:=jg fF.out (.slice none 0 0) (.slice none 0 0) (.slice none 0 0);change Hid _ at hs3;replace aJ:=af (gU.out.trans' aJ (fun x hx=>.inr (by simp at hx;omega)));clear fF gU;go_wp2_with fail
     obtain⟨⟨g0,g1,g2⟩,_⟩:=q3 hs3.out;exact bodyPost_ret (v:=.tuple #[.agg #[.slice none 0 0,.slice none 0 0,.slice none 0 0],.int .i64 6]) (by simp[results,Tryz.results401,go_sem,g0,g1,g2];try rfl) rfl (qj aF.out (by decide) aJ.out)
   ·by_cases Uo:N.length<=16
    ·by_cases Un:Rw.length<=32
     ·by_cases M8:N.length=T.length
      ·by_cases Y8:xv=(N.length:Int)
       ·have jd:ok=true:=by
         have hr:=iU.out;rw[show decide (N.length<=16)=true by simpa using Uo,show decide (T.length<=16)=true by simp;omega,show decide (Rw.length<=32)=true by simpa using Un,show decide (N.length=T.length)=true by simpa using M8,show decide (xv=(N.length:Int))=true by simpa using Y8]at hr;exact hr.symm
        have i1:(N.length:Int)<=16:=by omega
        have i3:(Rw.length:Int)<=32:=by omega
        have i4:((N.length:Int)!=(T.length:Int))=false:=by simp[M8]
        have i5:(xv !=(N.length:Int))=false:=by simp[Y8]
        have i6:IntKind.u64.wrap (N.length:Int)=N.length:=by rw[IntKind.wrap_u64];omega
        have i7:(N.length:Int)%18446744073709551616=N.length:=by omega
        have i8:((N.length:Int)!=(N.length:Int))=false:=by simp
        have hfin:Hid (∀W,ai [] w W->ai [rb] w6 W->F6 ok l w (.returned (.tuple #[.agg #[.slice a1 N.length x1,.slice a2 T.length x2,.slice a3 Rw.length x3],.int .i64 0])) W):=af fun W h1 h2=>by
         rw[jd];refine⟨⟨a1,x1,a2,x2,a3,x3,?_,?_⟩,h1⟩
         ·rw[hN.out,hT.out,WL.out]
         ·rw[hN.out,hT.out,WL.out]
          exact⟨um.out.own h2 hB1.out,uo.out.own h2 hB2.out,uq.out.own h2 hB3.out⟩
        obtain⟨⟨r0,r1,r2⟩,y0,y1,y2,_⟩:=q3 fF.out;obtain⟨hs3,aJ⟩:=jg fF.out (.slice a1 N.length x1) (.slice a2 T.length x2) (.slice a3 Rw.length x3);have hp:=hfin.out _ (gU.out.trans' aJ (fun x hx=>.inr (by simp at hx;omega))) aJ;change Hid _ at hs3 hp;clear aJ hfin jd iU um uo uq hB1 hB2 hB3 Uo Un M8 fF gU;subst Y8;generalize N.length=n1 at*;generalize T.length=n2 at*;generalize Rw.length=n3 at*;go_wp2_with fail
        obtain⟨⟨g0,g1,g2⟩,_⟩:=q3 hs3.out;exact bodyPost_ret (v:=.tuple #[.agg #[.slice a1 n1 x1,.slice a2 n2 x2,.slice a3 n3 x3],.int .i64 0]) (by simp[results,Tryz.results401,go_sem,g0,g1,g2];try rfl) rfl hp.out
       ·have aF:=af (show ok=false by
         have hr:=iU.out;rw[show decide (xv=(N.length:Int))=false by simp;omega]at hr;simpa using hr.symm)
        have i1:(N.length:Int)<=16:=by omega
        have i3:(Rw.length:Int)<=32:=by omega
        have i4:((N.length:Int)!=(T.length:Int))=false:=by simp[M8]
        have i5:(xv !=(N.length:Int))=true:=by simpa using Y8
        have i6:IntKind.u64.wrap (N.length:Int)=N.length:=by rw[IntKind.wrap_u64];omega
        clear Y8 M8;clear iU um uo uq;generalize N.length=n1 at*;generalize T.length=n2 at*;generalize Rw.length=n3 at*;obtain⟨⟨r0,r1,r2⟩,y0,y1,y2,_⟩:=q3 fF.out;obtain⟨hs3,aJ⟩:=jg fF.out (.slice none 0 0) (.slice none 0 0) (.slice none 0 0);change Hid _ at hs3;replace aJ:=af (gU.out.trans' aJ (fun x hx=>.inr (by simp at hx;omega)));clear fF gU;go_wp2_with fail
        obtain⟨⟨g0,g1,g2⟩,_⟩:=q3 hs3.out;exact bodyPost_ret (v:=.tuple #[.agg #[.slice none 0 0,.slice none 0 0,.slice none 0 0],.int .i64 4]) (by simp[results,Tryz.results401,go_sem,g0,g1,g2];try rfl) rfl (qj aF.out (by decide) aJ.out)
      ·have aF:=af (show ok=false by
        have hr:=iU.out;rw[show decide (N.length=T.length)=false by simp;omega]at hr;simpa using hr.symm)
       have i1:(N.length:Int)<=16:=by omega
       have i3:(Rw.length:Int)<=32:=by omega
       have i4:((N.length:Int)!=(T.length:Int))=true:=by simp;omega
       clear M8;clear iU um uo uq;generalize N.length=n1 at*;generalize T.length=n2 at*;generalize Rw.length=n3 at*;obtain⟨⟨r0,r1,r2⟩,y0,y1,y2,_⟩:=q3 fF.out;obtain⟨hs3,aJ⟩:=jg fF.out (.slice none 0 0) (.slice none 0 0) (.slice none 0 0);change Hid _ at hs3;replace aJ:=af (gU.out.trans' aJ (fun x hx=>.inr (by simp at hx;omega)));clear fF gU;go_wp2_with fail
       obtain⟨⟨g0,g1,g2⟩,_⟩:=q3 hs3.out;exact bodyPost_ret (v:=.tuple #[.agg #[.slice none 0 0,.slice none 0 0,.slice none 0 0],.int .i64 4]) (by simp[results,Tryz.results401,go_sem,g0,g1,g2];try rfl) rfl (qj aF.out (by decide) aJ.out)
     ·have aF:=af (show ok=false by
       have hr:=iU.out;rw[show decide (Rw.length<=32)=false by simp;omega]at hr;simpa using hr.symm)
      have i1:(N.length:Int)<=16:=by omega
      have i3:(32:Int)<Rw.length:=by omega
      clear iU um uo uq;generalize N.length=n1 at*;generalize T.length=n2 at*;generalize Rw.length=n3 at*;obtain⟨⟨r0,r1,r2⟩,y0,y1,y2,_⟩:=q3 fF.out;obtain⟨hs3,aJ⟩:=jg fF.out (.slice none 0 0) (.slice none 0 0) (.slice none 0 0);change Hid _ at hs3;replace aJ:=af (gU.out.trans' aJ (fun x hx=>.inr (by simp at hx;omega)));clear fF gU;go_wp2_with fail
      obtain⟨⟨g0,g1,g2⟩,_⟩:=q3 hs3.out;exact bodyPost_ret (v:=.tuple #[.agg #[.slice none 0 0,.slice none 0 0,.slice none 0 0],.int .i64 6]) (by simp[results,Tryz.results401,go_sem,g0,g1,g2];try rfl) rfl (qj aF.out (by decide) aJ.out)
    ·have aF:=af (show ok=false by
      have hr:=iU.out;rw[show decide (N.length<=16)=false by simp;omega]at hr;simpa using hr.symm)
     have i1:(16:Int)<N.length:=by omega
     clear iU um uo uq;generalize N.length=n1 at*;generalize T.length=n2 at*;generalize Rw.length=n3 at*;obtain⟨⟨r0,r1,r2⟩,y0,y1,y2,_⟩:=q3 fF.out;obtain⟨hs3,aJ⟩:=jg fF.out (.slice none 0 0) (.slice none 0 0) (.slice none 0 0);change Hid _ at hs3;replace aJ:=af (gU.out.trans' aJ (fun x hx=>.inr (by simp at hx;omega)));clear fF gU;go_wp2_with fail
     obtain⟨⟨g0,g1,g2⟩,_⟩:=q3 hs3.out;exact bodyPost_ret (v:=.tuple #[.agg #[.slice none 0 0,.slice none 0 0,.slice none 0 0],.int .i64 6]) (by simp[results,Tryz.results401,go_sem,g0,g1,g2];try rfl) rfl (qj aF.out (by decide) aJ.out)
end Go.Proofs.YtedcakchekaemaaGreatDoor
