import Derived.Test.YtedcakchekaemaaGreatDoorMn28
import Derived.Test.YtedcakchekaemaaGreatDoorMn20
set_option maxRecDepth 100000
set_option maxHeartbeats 16000000
set_option linter.all false
namespace Go.Proofs.YtedcakchekaemaaGreatDoor
open Go.RowKit
variable [Kd]
def jf(t:ByteArray):(ByteArray×ByteArray)×Bool:=
 if(jP t).k=1 then((t,aG),true)else if(jP t).k=5 then(((eH (jP t)).1,t),!((eH (jP t)).1==aG))else((aG,aG),false)
theorem xL(t:ByteArray)(w:World)(hs:t.size<=1048576)(hW:dz w)(hT:jG w)(hM:pG w):Calls Tryz.prog 169 #[.string t] w fun e w'=>e=.returned (.tuple #[.agg #[.string (jf t).1.1,.string (jf t).1.2],.bool (jf t).2])/\ai [] w w':=by
 obtain⟨R,hR⟩: ∃R,jf t=R:=⟨_,rfl⟩;rw[hR];unfold jf at hR;have hA:=(ai.refl [] w).alloc (.cells #[.string ⟨#[]⟩,.string ⟨#[]⟩] 225);have hb:=heap_alloc_new w (.cells #[.string ⟨#[]⟩,.string ⟨#[]⟩] 225);have cO:=af (wW t _ hs (hW.own hA) (hT.own (S:=[]) hA (by simp)) (hM.own hA));have cB:=af fun s W (ho:ai [] w W)=>vK s W (hW.own ho) (hT.own (S:=[]) ho (by simp)) (hM.own ho)
 generalize jP t=S at*;obtain⟨k,g,n,d⟩:=S;go_enter Tryz.func169,Tryz.ntmps169
 go_wp2_with fail
 refine cO.out.mono ?_;rintro e w2 ⟨hsp,hO2⟩;unfold sU at hsp;subst hsp;simp only;have hb2:=hO2.heap hb (by simp);have mR:=hA.trans hO2;have hA2:=(ai.refl [] w2).alloc (.cells #[.int .i64 k,.string g,.string n,.string d] 76);have hbs:=heap_alloc_new w2 (.cells #[.int .i64 k,.string g,.string n,.string d] 76);have hb3:=hA2.heap hb2 (by simp);have dO:=mR.trans hA2;clear cO hb hA hO2 hb2 mR;go_upto_region 2 with(fail)
 generalize(w2.alloc (.cells #[.int .i64 k,.string g,.string n,.string d] 76))=w3 at*;generalize hsb:w2.heap.size=sb at*;obtain⟨⟨c0,c1,c2,c3⟩,-⟩:=q4 hbs;obtain⟨⟨x0,x1⟩,z0,z1,hrl⟩:=Gf hb3;obtain⟨rb,hrb⟩: ∃rb,rb=w.heap.size:=⟨_,rfl⟩;have hrw:w.heap.size<=rb:=by omega
 rw[<-hrb]at hb3 x0 x1 z0 z1 hrl⊢;change Hid _ at hrb;clear hA2 hsb;by_cases k1:k=1
 ·rw[if_pos k1]at hR
  subst hR;subst k1;obtain⟨hs,hso⟩:=Yo hb3 (.string t) (.string ⟨#[]⟩);change Hid _ at hs;replace hso:=af (dO.trans' hso (fun x hx=>.inr (by simp at hx;omega)));clear hb3 dO;go_wp2_with fail
  obtain⟨⟨g0,g1⟩,_⟩:=Gf hs.out;exact bodyPost_ret (v:=.tuple #[.agg #[.string t,.string ⟨#[]⟩],.bool true]) (by simp[results,Tryz.results169,go_sem,g0,g1];try rfl) rfl ⟨rfl,hso.out⟩
 rw[if_neg k1]at hR;have q1:(k==1)=false:=by simpa using k1
 by_cases k5:k=5
 ·rw[if_pos k5]at hR
  have cB3:=cB.out ⟨k,g,n,d⟩ w3 dO;subst k5;generalize eH ⟨5,g,n,d⟩=tb at*;obtain⟨tn,td⟩:=tb;simp only at hR;have hdd:tn.toList.isEmpty=(tn==aG):=(zR tn).symm;generalize(tn==aG)=e0 at*;subst hR;simp only at cB3;replace cB3:=af cB3;clear k1;go_wp2_with fail
  refine cB3.out.mono ?_;rintro e w4 ⟨rfl,hO4⟩;have hb4:=hO4.heap hb3 (by simp);have sH:=dO.trans hO4;obtain⟨⟨y0,y1⟩,v0,v1,_⟩:=Gf hb4;obtain⟨hs,hso⟩:=Yo hb4 (.string tn) (.string t);change Hid _ at hs;replace hso:=af (sH.trans' hso (fun x hx=>.inr (by simp at hx;omega)));clear hb3 dO hb4 sH hO4 cB3 x0 x1 z0 z1 c0 c1 c2 c3 hbs;go_wp2_with fail
  obtain⟨⟨g0,g1⟩,_⟩:=Gf hs.out;exact bodyPost_ret (v:=.tuple #[.agg #[.string tn,.string t],.bool (!e0)]) (by simp[results,Tryz.results169,go_sem,g0,g1];try rfl) rfl ⟨rfl,hso.out⟩
 rw[if_neg k5]at hR;subst hR;have q5:(k==5)=false:=by simpa using k5
 obtain⟨hs,hso⟩:=Yo hb3 (.string ⟨#[]⟩) (.string ⟨#[]⟩);change Hid _ at hs;replace hso:=af (dO.trans' hso (fun x hx=>.inr (by simp at hx;omega)));clear hb3 dO k1 k5;go_wp2_with fail
 obtain⟨⟨g0,g1⟩,_⟩:=Gf hs.out;exact bodyPost_ret (v:=.tuple #[.agg #[.string ⟨#[]⟩,.string ⟨#[]⟩],.bool false]) (by simp[results,Tryz.results169,go_sem,g0,g1];try rfl) rfl ⟨rfl,hso.out⟩
def qZ(k:ByteArray×ByteArray)(x:Bi):Bool:=KE k (x.k0,x.k1)
theorem zS(k:ByteArray×ByteArray)(kb:Nat)(x:Bi)(w:World)(h:w.heap[kb]?=some (.cells #[.string k.1,.string k.2] 225 (0,0))):
  Calls Tryz.prog 222 #[.agg (bK x).toArray,aK kb] w fun e w'=>e=.returned (.bool (qZ k x))/\ai [] w w':=by
 obtain⟨a,b⟩:=k;obtain⟨c,d,t⟩:=x;unfold qZ bK;simp only at h⊢;have hA:=(ai.refl [] w).alloc (.cells #[.string c,.string d,.string t] 227);have hbx:=heap_alloc_new w (.cells #[.string c,.string d,.string t] 227);have hk:=hA.heap h (by simp);have cC:=af fun W=>Gd a b c d W
 obtain⟨⟨k0,k1⟩,_⟩:=Gf hk;have x0:(w.alloc (.cells #[.string c,.string d,.string t] 227)).cell? ⟨w.heap.size,0,none⟩=some (.string c):=cell_of_row _ _ 0 _ _ _ hbx;have x1:(w.alloc (.cells #[.string c,.string d,.string t] 227)).cell? ⟨w.heap.size,1,none⟩=some (.string d):=cell_of_row _ _ 1 _ _ _ hbx;generalize KE (a,b) (c,d)=r at*;replace hA:=af hA;clear h hbx hk;go_enter Tryz.func222,Tryz.ntmps222
 go_wp2_with fail
 refine(cC.out _).mono ?_;rintro e w2 ⟨rfl,hO2⟩;replace hO2:=af (hA.out.trans hO2);clear cC;go_wp2_with fail
 go_ret
 exact⟨rfl,hO2.out⟩
theorem aA.biAt{w:World}{a:Option Addr}{n c:Nat}{l:List Bi}(h:aA bK w (.slice a n c) l){k:Nat}(hk:k<l.length):
  ∃b o,a=some ⟨b,o,none⟩/\w.cell? ⟨b,o+k*3,none⟩=some (.string l[k].k0)/\w.cell? ⟨b,o+k*3+1,none⟩=some (.string l[k].k1)/\w.cell? ⟨b,o+k*3+2,none⟩=some (.string l[k].t):=by
 obtain⟨b,o,rfl,hx⟩:=h.at_ dm (by omega);have e:=List.getElem?_eq_getElem hk;refine⟨b,o,rfl,hx k _ 0 _ e rfl,?_,?_⟩
 ·have:=hx k _ 1 _ e rfl;rwa[<-Nat.add_assoc]at this
 ·have:=hx k _ 2 _ e rfl;rwa[<-Nat.add_assoc]at this
def Gg(k:ByteArray×ByteArray)(L:List Bi):Int:=match L.findIdx? (qZ k)with
 |some i=>i
 |none=> -1
def uT(w:World)(kb:Nat)(k:ByteArray×ByteArray):Prop:=w.heap[kb]?=some (.cells #[.string k.1,.string k.2] 225 (0,0))
theorem uT.own{S:List Nat}{w w':World}{kb:Nat}{k:ByteArray×ByteArray}(h:uT w kb k)(ho:ai S w w')(hb:kb∉S):uT w' kb k:=ai.heap ho h hb
theorem OY(k:ByteArray×ByteArray)(kb:Nat)(v:Value)(L:List Bi)(w:World)(h:aA bK w v L)(hk:uT w kb k)(hl:L.length<=40):
  Calls Tryz.prog 276 #[v,.func (.func 222) #[] #[aK kb]] w fun e w'=>e=.returned (.int .i64 (Gg k L))/\ai [] w w':=by
 obtain⟨va,vc,rfl⟩:=h.form;have sG:=af h;have hkh:=af hk;obtain⟨R,hR⟩: ∃R,Gg k L=R:=⟨_,rfl⟩;rw[hR];unfold Gg at hR;change Hid _ at hR;clear h hk;go_enter Tryz.func276,Tryz.ntmps276
 go_wp2_with fail
 go_loopg[8] L.length (fun gg s8 wr=> ∃j:Nat,j<=L.length/\gg=L.length-j/\s8=.int .i64 j/\Aside (ai [] w wr/\ ∀i (hi:i<L.length),i<j->qZ k L[i]=false))
 case atStart=>exact⟨0,by omega,by omega,rfl,ai.refl _ _,fun i _ hi=>absurd hi (by omega)⟩
 case round=>
  obtain⟨j,hj,rfl,rfl,hO,hno⟩:=hrel;have j0:(0:Int)<=j:=by omega
  by_cases hlt:j<L.length
  ·have j1:(j:Int)<L.length:=by omega
   have hwj:IntKind.i64.wrap ((j:Int)+1)=(j:Int)+1:=IntWalk.i64_in _ (by omega);obtain⟨b1,o1,rfl,c0,c1,c2⟩:=(sG.out.nil' hO).biAt hlt;have cL:=zS k kb L[j] wr (hkh.out.own hO (by simp));have Eu:qZ k L[j]=true->R=j:=fun hh=>by
    rw[<-hR.out,show L.findIdx? (qZ k)=some j from List.findIdx?_eq_some_iff_getElem.2 ⟨hlt,hh,fun i hi=>by simp[hno i (by omega) hi]⟩]
   have hnx:qZ k L[j]=false-> ∀i (hi:i<L.length),i<j+1->qZ k L[i]=false:=fun hh i hi hij=>by
    rcases Nat.lt_or_ge i j with h1|h1
    ·exact hno i hi h1
    ·obtain rfl:i=j:=by omega
     exact hh
   generalize L[j]=x at*;generalize hr:qZ k x=r at*;obtain⟨x0,x1,x2⟩:=x;unfold bK at cL;simp only at cL c0 c1 c2;replace cL:=af cL;cases r with
   |true=>
    have hR':=Eu rfl;subst hR';clear Eu hnx hno hr;go_wp2_with fail
    refine cL.out.mono ?_;rintro e w2 ⟨rfl,hO2⟩;replace hO2:=af (hO.trans hO2);clear cL;go_wp2_with fail
    go_ret
    exact⟨rfl,hO2.out⟩
   |false=>
    replace hnx:=af (hnx rfl);clear Eu hno hr;go_wp2_with fail
    refine cL.out.mono ?_;rintro e w2 ⟨rfl,hO2⟩;replace hO2:=af (hO.trans hO2);clear cL;go_wp2_with fail
    go_roundg(L.length-(j+1))
    case measure=>omega
    case rel=>exact⟨j+1,by omega,rfl,by simp,hO2.out,hnx.out⟩
  ·have j1: ¬(j:Int)<L.length:=by omega
   have hR':R= -1:=by
    rw[<-hR.out,show L.findIdx? (qZ k)=none from List.findIdx?_eq_none_iff.2 (fun x hx=>by
     obtain⟨i,hi,rfl⟩:=List.getElem_of_mem hx;exact hno i hi (by omega))]
   subst hR';change Hid _ at hO;clear hno;go_wp2_with fail
   go_ret
   exact⟨rfl,hO.out⟩
theorem Dp{P:Program}(w:World)(t e ty:TypeId)(z:Value)(ht:P.underlying t=some (.slice e))(hv: ∀w,(zeroValue e).run P w=.ok z w)(b o n c:Nat)(hn:0<n)
  (hc: ∀j,j<(Builtin.zeroCells z.cells n).toList.length->(w.cell? ⟨b,o+j,none⟩).isSome=true)(hf: ∀j,j<(Builtin.zeroCells z.cells n).toList.length->w.frozen? ⟨b,o+j,none⟩=false)(h1: ∀v∈(Builtin.zeroCells z.cells n).toList,v.oneCell'=true):
  (Builtin.clear_ #[t] ty #[.slice (some ⟨b,o,none⟩) n c]).run P w=.ok (.tuple #[]) (w.setCells b o (Builtin.zeroCells z.cells n).toList):=by
 have hst:=run_storeCells_cells (P:=P) b o (Builtin.zeroCells z.cells n).toList 0 w (by simpa using hc) (by simpa using hf) h1;simp only[Nat.add_zero]at hst;obtain⟨m,rfl⟩: ∃m,n=m+1:=⟨n-1,by omega⟩;simp[Builtin.clear_,run_underlying ht,hv,hst]
def ql:Value:=.agg #[.string ⟨#[]⟩,.string ⟨#[]⟩,.string ⟨#[]⟩]
theorem KF(w:World):(zeroValue 227).run Tryz.prog w=.ok ql w:=by kernel_rfl
theorem KG(n:Nat):(Builtin.zeroCells ql.cells n).toList.length=n*3:=by simp[Builtin.zeroCells,ql,Value.cells]
theorem KH(n:Nat): ∀v∈(Builtin.zeroCells ql.cells n).toList,v.oneCell'=true:=by
 intro v hv;simp[Builtin.zeroCells,ql,Value.cells]at hv;obtain⟨i,hi,rfl⟩:=hv;have:i%3=0\/i%3=1\/i%3=2:=by omega
 rcases this with h|h|h<;>simp[h]<;>rfl
theorem KI{α:Type}(l:List α)(o:Nat)(a b c:α)(h:o+3<=l.length):(((l.set o a).set (o+1) b).set (o+2) c).take (o+3)=l.take o++[a,b,c]:=by
 apply List.ext_getElem?;intro n;have hl:(l.take o).length=o:=by rw[List.length_take];omega
 rw[List.getElem?_take];by_cases h1:n<o
 ·rw[if_pos (by omega),List.getElem?_append_left (by omega),List.getElem?_set,List.getElem?_set,List.getElem?_set,List.getElem?_take,if_neg (by omega),if_neg (by omega),if_neg (by omega),if_pos h1]
 ·rw[List.getElem?_append_right (by omega),hl]
  by_cases h2:n<o+3
  ·rw[if_pos h2,List.getElem?_set,List.getElem?_set,List.getElem?_set]
   have:n=o\/n=o+1\/n=o+2:=by omega
   rcases this with rfl|rfl|rfl
   ·rw[if_neg (by omega),if_neg (by omega),if_pos rfl,if_pos (by omega),Nat.sub_self];rfl
   ·rw[if_neg (by omega),if_pos rfl,if_pos (by simp;omega),show o+1-o=1 by omega];rfl
   ·rw[if_pos rfl,if_pos (by simp;omega),show o+2-o=2 by omega];rfl
  ·rw[if_neg h2,List.getElem?_eq_none (by simp;omega)]
def dF(k:ByteArray×ByteArray)(L:List Bi):List Bi:=L.filter fun x=> !qZ k x
structure Dq (w wr:World) (g cap:Nat) (k:ByteArray×ByteArray) (L:List Bi) (i j:Nat):Prop where
 own:ai [g] w wr
 cur: ∃cur:Array Value,wr.heap[g]?=some (.cells cur 227 (0,0))/\cur.size=cap*3/\cur.toList.take (i*3)=aC bK (dF k (L.take j))/\
  ∀m (hm:m<L.length),j<=m->cur[m*3]?=some (.string L[m].k0)/\cur[m*3+1]?=some (.string L[m].k1)/\cur[m*3+2]?=some (.string L[m].t)
 cnt:i=(dF k (L.take j)).length
 lt:i<j
theorem Dq.nil'{w wr w':World}{g cap:Nat}{k:ByteArray×ByteArray}{L:List Bi}{i j:Nat}(h:Dq w wr g cap k L i j)(ho:ai [] wr w'):Dq w w' g cap k L i j:=by
 obtain⟨h1,⟨cur,h2,h3⟩,h4,h5⟩:=h;exact⟨h1.trans ho.nil,⟨cur,ho.heap h2 (by simp),h3⟩,h4,h5⟩
theorem Dq.skip{w wr:World}{g cap:Nat}{k:ByteArray×ByteArray}{L:List Bi}{i j:Nat}(h:Dq w wr g cap k L i j)(hj:j<L.length)(hc:qZ k L[j]=true):Dq w wr g cap k L i (j+1):=by
 obtain⟨h1,⟨cur,h2,h3,h4,h5⟩,h6,h7⟩:=h;have e:dF k (L.take (j+1))=dF k (L.take j):=by
  unfold dF;rw[List.take_succ_eq_append_getElem hj,List.filter_append];simp[hc]
 exact⟨h1,⟨cur,h2,h3,by rw[e];exact h4,fun m hm hjm=>h5 m hm (by omega)⟩,by rw[e];exact h6,by omega⟩
theorem Dq.put{w wr:World}{g cap:Nat}{k:ByteArray×ByteArray}{L:List Bi}{i j:Nat}(h:Dq w wr g cap k L i j)(hj:j<L.length)(hn:L.length<=cap)(hc:qZ k L[j]=false):
  ((wr.cell? ⟨g,i*3,none⟩).isSome=true/\(wr.cell? ⟨g,i*3+1,none⟩).isSome=true/\(wr.cell? ⟨g,i*3+2,none⟩).isSome=true)/\
  Dq w (((wr.setCell ⟨g,i*3,none⟩ (.string L[j].k0)).setCell ⟨g,i*3+1,none⟩ (.string L[j].k1)).setCell ⟨g,i*3+2,none⟩ (.string L[j].t)) g cap k L (i+1) (j+1):=by
 obtain⟨h1,⟨cur,h2,h3,h4,h5⟩,h6,h7⟩:=h;have e:dF k (L.take (j+1))=dF k (L.take j)++[L[j]]:=by
  unfold dF;rw[List.take_succ_eq_append_getElem hj,List.filter_append];simp[hc]
 have hs: ∀o,o<cap*3->(wr.cell? ⟨g,o,none⟩).isSome=true:=fun o ho=>by
  rw[cell_of_row _ _ _ _ _ _ h2,Array.getElem?_eq_getElem (by omega)];rfl
 have k1:=heap_setCell_same wr g (i*3) _ _ (.string L[j].k0) h2;have k2:=heap_setCell_same _ g (i*3+1) _ _ (.string L[j].k1) k1;have k3:=heap_setCell_same _ g (i*3+2) _ _ (.string L[j].t) k2;refine⟨⟨hs _ (by omega),hs _ (by omega),hs _ (by omega)⟩,((h1.setCell (.inl (by simp)) _).setCell (.inl (by simp)) _).setCell (.inl (by simp)) _,⟨_,k3,by simpa using h3,?_,fun m hm hjm=>?_⟩,by rw[e,List.length_append,List.length_singleton,<-h6],by omega⟩
 ·rw[e,bO,show(i+1)*3=i*3+3 by omega]
  simp only[Array.toList_setIfInBounds];rw[KI _ _ _ _ _ (by simp;omega),h4];simp[aC,bK]
 ·obtain⟨q1,q2,q3⟩:=h5 m hm (by omega)
  simp only[Array.getElem?_setIfInBounds,Array.size_setIfInBounds];refine⟨?_,?_,?_⟩
  ·rw[if_neg (by omega),if_neg (by omega),if_neg (by omega)];exact q1
  ·rw[if_neg (by omega),if_neg (by omega),if_neg (by omega)];exact q2
  ·rw[if_neg (by omega),if_neg (by omega),if_neg (by omega)];exact q3
theorem Dq.at'{w wr:World}{g cap:Nat}{k:ByteArray×ByteArray}{L:List Bi}{i j:Nat}(h:Dq w wr g cap k L i j)(hj:j<L.length):wr.cell? ⟨g,j*3,none⟩=some (.string L[j].k0)/\wr.cell? ⟨g,j*3+1,none⟩=some (.string L[j].k1)/\wr.cell? ⟨g,j*3+2,none⟩=some (.string L[j].t):=by
 obtain⟨h1,⟨cur,h2,h3,h4,h5⟩,h6,h7⟩:=h;obtain⟨q1,q2,q3⟩:=h5 j hj (Nat.le_refl _);exact⟨by rw[cell_of_row _ _ _ _ _ _ h2];exact q1,by rw[cell_of_row _ _ _ _ _ _ h2];exact q2,by rw[cell_of_row _ _ _ _ _ _ h2];exact q3⟩
theorem Dq.fz{w wr:World}{g cap:Nat}{k:ByteArray×ByteArray}{L:List Bi}{i j:Nat}(h:Dq w wr g cap k L i j)(o:Nat):wr.frozen? ⟨g,o,none⟩=false:=by
 obtain⟨h1,⟨cur,h2,h3,h4,h5⟩,h6,h7⟩:=h;exact frozen_of_row _ g o _ _ h2
theorem Dq.done{w wr:World}{g cap:Nat}{k:ByteArray×ByteArray}{L:List Bi}{i:Nat}(h:Dq w wr g cap k L i L.length)(hn:L.length<=cap)(hm:cap<=maxLen):
  (∀c ty,(Builtin.clear_ #[148] ty #[.slice (some ⟨g,i*3,none⟩) (L.length-i) c]).run Tryz.prog wr=.ok (.tuple #[]) (wr.setCells g (i*3) (Builtin.zeroCells ql.cells (L.length-i)).toList))/\
  ai [g] w (wr.setCells g (i*3) (Builtin.zeroCells ql.cells (L.length-i)).toList)/\qD 227 bK 3 (wr.setCells g (i*3) (Builtin.zeroCells ql.cells (L.length-i)).toList) g cap (dF k L):=by
 obtain⟨h1,⟨cur,h2,h3,h4,h5⟩,h6,h7⟩:=h;rw[List.take_length]at h4 h6;have hs: ∀o,o<cap*3->(wr.cell? ⟨g,o,none⟩).isSome=true:=fun o ho=>by
  rw[cell_of_row _ _ _ _ _ _ h2,Array.getElem?_eq_getElem (by omega)];rfl
 have hz:=KG (L.length-i);obtain⟨c1,k1,k2,k3⟩:=dA (Builtin.zeroCells ql.cells (L.length-i)).toList (i*3) wr cur h2 (by rw[hz];omega);refine⟨fun c ty=>Dp wr _ _ ty ql Tryz.underlying148 KF g (i*3) (L.length-i) c (by omega) (fun j hj=>hs _ (by rw[hz]at hj;omega)) (fun j _=>frozen_of_row _ g _ _ _ h2) (KH _),dB (by simp) _ _ h1,c1,k1,by omega,hm,by rw[k2,h3],?_⟩;rw[<-h6,k3,List.append_assoc,List.take_append_of_le_length (by rw[List.length_take];simp;omega),List.take_take,Nat.min_self,h4]
theorem OZ(k:ByteArray×ByteArray)(kb base:Nat)(v:Value)(L:List Bi)(w:World)(h:Sl 227 bK 3 base w v L)(hk:uT w kb k)(hne:v.ownBlock≠some kb)(hl:L.length<=40):
  Calls Tryz.prog 221 #[v,.func (.func 222) #[] #[aK kb]] w fun e w'=> ∃v',e=.returned v'/\Sl 227 bK 3 base w' v' (dF k L)/\ai v.ownBlock.toList w w'/\v'.ownBlock=v.ownBlock:=by
 have cI:=OY k kb v L w (h.reads dm) hk hl;cases hfi:L.findIdx? (qZ k)with
 |none=>
  have hke:dF k L=L:=by
   unfold dF;rw[List.filter_eq_self];intro x hx;have:=List.findIdx?_eq_none_iff.1 hfi x hx;simp[this]
  rw[hke];rw[show Gg k L= -1 by unfold Gg;rw[hfi]]at cI;replace cI:=af cI;have hh:=af h;obtain⟨a,c,rfl⟩:=h.sl;clear h hk hne hfi hke;go_enter Tryz.func221,Tryz.ntmps221
  go_wp2_with fail
  refine cI.out.mono ?_;rintro e w2 ⟨rfl,hO2⟩;replace hO2:=af hO2;go_wp2_with fail
  go_ret
  exact⟨_,rfl,hh.out.nil' hO2.out,hO2.out.nil,rfl⟩
 |some i0=>
  obtain⟨hi0,hc0,hb0⟩:=List.findIdx?_eq_some_iff_getElem.1 hfi;rw[show Gg k L=i0 by unfold Gg;rw[hfi]]at cI;rcases h.form with⟨_,h2⟩|⟨g,cap,rfl,hbg,Ep⟩
  ·rw[h2]at hi0;simp at hi0
  have hkg:kb≠g:=fun e=>hne (by rw[e];rfl)
  obtain⟨cur,hg1,hn,hm,hsz,htk⟩:=Ep;have hstart: ∀w1,ai [] w w1->Dq w w1 g cap k L i0 (i0+1):=fun w1 ho=>by
   have e:dF k (L.take (i0+1))=L.take i0:=by
    unfold dF;rw[List.take_succ_eq_append_getElem hi0,List.filter_append];rw[List.filter_eq_self.2]
    ·simp[hc0]
    ·intro x hx
     obtain⟨j,hj,rfl⟩:=List.getElem_of_mem hx;rw[List.length_take]at hj;have:=hb0 j (by omega);simp only[List.getElem_take];simpa using this
   refine⟨ho.nil,⟨cur,ho.heap hg1 (by simp),hsz,?_,fun m hm2 _=>?_⟩,by rw[e,List.length_take];omega,by omega⟩
   ·rw[e,vJ,<-htk,List.take_take,Nat.min_eq_left (by omega)]
   ·have hc: ∀c u,(bK L[m])[c]?=some u->cur[m*3+c]?=some u:=fun c u hu=>by
     have hcl:=(List.getElem?_eq_some_iff.1 hu).1;rw[dm]at hcl;have h1:=(fe dm L m c L[m] (List.getElem?_eq_getElem hm2) hcl).trans hu;rw[<-htk,List.getElem?_take,if_pos (by omega)]at h1;simpa using h1
    exact⟨by simpa using hc 0 _ rfl,hc 1 _ rfl,hc 2 _ rfl⟩
  have aei:i0<40:=by omega
  have hwi:IntKind.i64.wrap ((i0:Int)+1)=(i0:Int)+1:=IntWalk.i64_in _ (by omega);have hi1:((i0:Int)== -1)=false:=by
   rw[Bool.eq_false_iff];intro hx;have:=LawfulBEq.eq_of_beq hx;omega
  have hkh:=af hk;change Hid _ at hstart;replace cI:=af cI;have hnh:=af hn;have hmh:=af hm;have hlh:=af hl;change Hid _ at hbg hkg;clear h hk hne hfi hc0 hb0 hg1 hn hm hsz htk cur;go_enter Tryz.func221,Tryz.ntmps221
  go_wp2_with fail
  refine cI.out.mono ?_;rintro e w2 ⟨rfl,hO2⟩;have hJ0:=af (hstart.out _ hO2);clear hO2 cI hstart;go_wp2_with fail
  go_loopg[5,6] (L.length-(i0+1)) (fun gg s5 s6 wr=> ∃i j:Nat,j<=L.length/\gg=L.length-j/\s5=.int .i64 i/\s6=.int .i64 j/\Aside (Dq w wr g cap k L i j))
  case atStart=>exact⟨i0,i0+1,by omega,rfl,rfl,by simp,hJ0.out⟩
  case round=>
   obtain⟨i,j,hj,rfl,rfl,rfl,hJ⟩:=hrel;have hij:=hJ.lt;have i0':(0:Int)<=i:=by omega
   have j0:(0:Int)<=j:=by omega
   have aek:=hlh.out;have hwj:IntKind.i64.wrap ((j:Int)+1)=(j:Int)+1:=IntWalk.i64_in _ (by omega);have ael:IntKind.i64.wrap ((i:Int)+1)=(i:Int)+1:=IntWalk.i64_in _ (by omega);by_cases hlt:j<L.length
   ·have j1:(j:Int)<L.length:=by omega
    have i1:(i:Int)<L.length:=by omega
    obtain⟨c0,c1,c2⟩:=hJ.at' hlt;have hA:=(ai.refl [] wr).alloc (.cells (bK L[j]).toArray 227);have hbx:=heap_alloc_new wr (.cells (bK L[j]).toArray 227);have Uw:=hJ.nil' hA;have cL:=zS k kb L[j] _ ((hkh.out.own hJ.own (by simpa using hkg.out)).own hA (by simp));have hsk:=fun hh W (ho:ai [] (wr.alloc (.cells (bK L[j]).toArray 227)) W)=>(Uw.nil' ho).skip hlt hh
    have hpt:=fun hh W (ho:ai [] (wr.alloc (.cells (bK L[j]).toArray 227)) W)=>(Uw.nil' ho).put hlt hnh.out hh
    have hfz:=fun o W (ho:ai [] (wr.alloc (.cells (bK L[j]).toArray 227)) W)=>(Uw.nil' ho).fz o
    have hbk:Hid (∀W,ai [] (wr.alloc (.cells (bK L[j]).toArray 227)) W->W.heap[wr.heap.size]?=some (.cells (bK L[j]).toArray 227 (0,0))):=af fun W ho=>ho.heap hbx (by simp)
    generalize L[j]=x at*;generalize hr:qZ k x=r at*;obtain⟨x0,x1,x2⟩:=x;unfold bK at*;simp only at cL c0 c1 c2 hpt hsk hfz hbk hbx⊢;obtain⟨d0,d1,d2⟩:(wr.alloc (.cells #[.string x0,.string x1,.string x2] 227)).cell? ⟨wr.heap.size,0,none⟩=some (.string x0)/\(wr.alloc (.cells #[.string x0,.string x1,.string x2] 227)).cell? ⟨wr.heap.size,1,none⟩=some (.string x1)/\(wr.alloc (.cells #[.string x0,.string x1,.string x2] 227)).cell? ⟨wr.heap.size,2,none⟩=some (.string x2):=⟨cell_of_row _ _ 0 _ _ _ hbx,cell_of_row _ _ 1 _ _ _ hbx,cell_of_row _ _ 2 _ _ _ hbx⟩;replace cL:=af cL;cases r with
    |true=>
     have Ze:=af (hsk rfl);clear hsk hpt hfz hr hJ Uw hJ0 hbx hA;go_wp2_with fail
     refine cL.out.mono ?_;rintro e w5 ⟨rfl,aB⟩;have lV:=af (Ze.out _ aB);clear cL aB Ze c0 c1 c2 d0 d1 d2;go_wp2_with fail
     go_roundg(L.length-(j+1))
     case measure=>omega
     case rel=>exact⟨i,j+1,by omega,rfl,rfl,by simp,lV.out⟩
    |false=>
     have Zf:=af (hpt rfl);change Hid _ at hfz;clear hsk hpt hr hJ Uw hJ0 hbx hA;go_wp2_with fail
     refine cL.out.mono ?_;rintro e w5 ⟨rfl,aB⟩;obtain⟨⟨p0,p1,p2⟩,lV⟩:=Zf.out _ aB;have f0:=hfz.out (i*3) _ aB;have f1:=hfz.out (i*3+1) _ aB;have f2:=hfz.out (i*3+2) _ aB;have hb5:=hbk.out _ aB;obtain⟨y0,hy0⟩:=Option.isSome_iff_exists.1 p0;obtain⟨y1,hy1⟩:=Option.isSome_iff_exists.1 p1;obtain⟨y2,hy2⟩:=Option.isSome_iff_exists.1 p2;obtain⟨z0,z1,z2⟩:w5.cell? ⟨wr.heap.size,0,none⟩=some (.string x0)/\w5.cell? ⟨wr.heap.size,1,none⟩=some (.string x1)/\w5.cell? ⟨wr.heap.size,2,none⟩=some (.string x2):=⟨cell_of_row _ _ 0 _ _ _ hb5,cell_of_row _ _ 1 _ _ _ hb5,cell_of_row _ _ 2 _ _ _ hb5⟩;change Hid _ at lV;clear cL aB Zf hfz hbk hb5 p0 p1 p2 c0 c1 c2 d0 d1 d2;go_wp2_with fail
     go_roundg(L.length-(j+1))
     case measure=>omega
     case rel=>exact⟨i+1,j+1,by omega,rfl,by simp,by simp,lV.out⟩
   ·have j1: ¬(j:Int)<L.length:=by omega
    obtain rfl:j=L.length:=by omega
    obtain⟨hcl,hO,WL⟩:=hJ.done hnh.out hmh.out;have hcn:=hJ.cnt;rw[List.take_length]at hcn;have hS:=Sl.of_row WL dm hbg.out;rw[<-hcn]at hS;have hni:=hnh.out;have hci: ¬(cap=i):=by omega
    have hii:(i:Int)<=L.length:=by omega
    have hic:(i:Int)<=cap:=by omega
    have hnc:(L.length:Int)<=cap:=by omega
    have hsub:((L.length:Int)-i).toNat=L.length-i:=by omega
    change Hid _ at hS hO hcn;clear hJ WL hJ0;generalize XZ:L.length=nL at*;change Hid _ at XZ;go_wp2_with fail
    rename_i cs heq
    have hcs:cs=ql.cells:=by rw[heq];rfl
    rw[hcs];go_ret
    exact⟨_,rfl,hS.out,by simpa[Value.ownBlock]using hO.out,rfl⟩
def XI(a b:Int):Int:=if a≠0 then a else b
theorem I8(a b:Int)(q:Nat)(w:World)(h0:w.cell? ⟨q,0,none⟩=some (.int .i64 a))(h1:w.cell? ⟨q,1,none⟩=some (.int .i64 b)):Calls Tryz.prog 28 #[.slice (some ⟨q,0,none⟩) 2 2] w fun e w'=>e=.returned (.int .i64 (XI a b))/\w=w':=by
 unfold XI;by_cases ha:a≠0
 ·rw[if_pos ha]
  have qa:(a !=0)=true:=by simpa using ha
  clear ha;go_enter Tryz.func28,Tryz.ntmps28
  go_wp2_with fail
  refine wp_loop_rounds 1 ?_;rw[rounds_succ];go_wp2_with fail
  go_ret
  exact⟨rfl,rfl⟩
 ·rw[if_neg ha]
  have ha':a=0:=by omega
  subst ha';clear ha;by_cases hb:b≠0
  ·have qb:(b !=0)=true:=by simpa using hb
   clear hb;go_enter Tryz.func28,Tryz.ntmps28
   go_wp2_with fail
   refine wp_loop_rounds 2 ?_;rw[rounds_succ];go_wp2_with fail
   rw[rounds_succ];go_wp2_with fail
   go_ret
   exact⟨rfl,rfl⟩
  ·have hb':b=0:=by omega
   subst hb';go_enter Tryz.func28,Tryz.ntmps28
   go_wp2_with fail
   refine wp_loop_rounds 3 ?_;rw[rounds_succ];go_wp2_with fail
   rw[rounds_succ];go_wp2_with fail
   rw[rounds_succ];go_wp2_with fail
   go_ret
   exact⟨rfl,rfl⟩
def xQ(x:Bi)(k:ByteArray×ByteArray):Int:=XI (lq x.k0 k.1) (lq x.k1 k.2)
theorem KR(x:Bi)(k:ByteArray×ByteArray)(w:World):Calls Tryz.prog 225 #[.agg (bK x).toArray,.agg #[.string k.1,.string k.2]] w fun e w'=>e=.returned (.int .i64 (xQ x k))/\ai [] w w':=by
 obtain⟨a,b⟩:=k;obtain⟨c,d,t⟩:=x;unfold xQ bK;simp only;have hO:=((ai.refl [] w).alloc (.cells #[.string c,.string d,.string t] 227)).alloc (.cells #[.string a,.string b] 225);have hb:=((ai.refl [] _).alloc (.cells #[.string a,.string b] 225)).heap (heap_alloc_new w (.cells #[.string c,.string d,.string t] 227)) (by simp);have hd:=heap_alloc2_new w (.cells #[.string c,.string d,.string t] 227) (.cells #[.string a,.string b] 225);have C:=af (fun u v W=>xP u v W);have cO:=af (fun x y q W h0 h1=>I8 x y q W h0 h1);have hx:Hid (∀W,ai [] ((w.alloc (.cells #[.string c,.string d,.string t] 227)).alloc (.cells #[.string a,.string b] 225)) W->(W.cell? ⟨w.heap.size,0,none⟩=some (.string c)/\W.cell? ⟨w.heap.size,1,none⟩=some (.string d)/\W.cell? ⟨w.heap.size+1,0,none⟩=some (.string a)/\W.cell? ⟨w.heap.size+1,1,none⟩=some (.string b))/\ai [] w W):=af fun W ho=>
  ⟨⟨cell_of_row _ _ 0 _ _ _ (ho.heap hb (by simp)),cell_of_row _ _ 1 _ _ _ (ho.heap hb (by simp)),cell_of_row _ _ 0 _ _ _ (ho.heap hd (by simp)),cell_of_row _ _ 1 _ _ _ (ho.heap hd (by simp))⟩,hO.trans ho⟩
 clear hO hb hd;go_enter Tryz.func225,Tryz.ntmps225
 go_wp2_with fail
 generalize((w.alloc (.cells #[.string c,.string d,.string t] 227)).alloc (.cells #[.string a,.string b] 225))=W0 at*;generalize hxb:w.heap.size=xb at*;have kW:=(hx.out W0 (ai.refl _ _)).1;have Ib:=(hx.out W0.drew ((ai.refl [] W0).drew)).1;go_region_held3(fun W=>W.cell? ⟨xb,0,none⟩=some (.string c)/\W.cell? ⟨xb,1,none⟩=some (.string d)/\W.cell? ⟨xb+1,0,none⟩=some (.string a)/\W.cell? ⟨xb+1,1,none⟩=some (.string b)) (first|with_reducible exact kW|with_reducible exact Ib|go_keep)
  ((first
    |(go_at_call 29;(with_reducible refine(C.out _ _ _).mono ?_);rintro e w2 ⟨rfl,rfl⟩)
    |(go_at_call 28;go_loud(refine(cO.out (lq c a) (lq d b) W0.heap.size _ (by first|exact cell_of_row _ _ 0 _ _ _ (heap_alloc_new _ _)|exact cell_of_row _ _ 0 _ _ _ (heap_alloc_new W0 _)) (by first|exact cell_of_row _ _ 1 _ _ _ (heap_alloc_new _ _)|exact cell_of_row _ _ 1 _ _ _ (heap_alloc_new W0 _))).mono ?_);rintro e w3 ⟨rfl,rfl⟩)))
 go_wp2_with fail
 go_ret
 exact⟨rfl,(hx.out _ ((ai.refl [] W0).alloc _).drew).2⟩
theorem Sk(v:Value)(L:List Bi)(k:ByteArray×ByteArray)(pos:Nat)(w:World)(h:aA bK w v L)(hl:L.length<=40)(hp:pos<=L.length)(hiff: ∀j (hj:j<L.length),xQ L[j] k<0↔j<pos):
  Calls Tryz.prog 224 #[v,.agg #[.string k.1,.string k.2],(.func (.func 225) #[] #[])] w fun e w'=>(∃has,e=.returned (.tuple #[.int .i64 pos,.bool has]))/\ai [] w w':=by
 obtain⟨va,vc,rfl⟩:=h.form;have hA:=(ai.refl [] w).alloc (.cells #[.string k.1,.string k.2] 225);have hk:=heap_alloc_new w (.cells #[.string k.1,.string k.2] 225);have hC: ∀W j,ai [] (w.alloc (.cells #[.string k.1,.string k.2] 225)) W->j<L.length-> ∃gb o x,va=some ⟨gb,o,none⟩/\(W.cell? ⟨gb,o+j*3,none⟩=some (.string (Bi.k0 x))/\W.cell? ⟨gb,o+j*3+1,none⟩=some (.string x.k1)/\W.cell? ⟨gb,o+j*3+2,none⟩=some (.string x.t))/\(xQ x k<0↔j<pos):=fun W j ho hj=>by
  obtain⟨gb,o,e,c0,c1,c2⟩:=((h.nil' hA).nil' ho).biAt hj;exact⟨gb,o,L[j],e,⟨c0,c1,c2⟩,hiff j hj⟩
 have hK: ∀W,ai [] (w.alloc (.cells #[.string k.1,.string k.2] 225)) W->(W.cell? ⟨w.heap.size,0,none⟩=some (.string k.1)/\W.cell? ⟨w.heap.size,1,none⟩=some (.string k.2))/\ai [] w W:=fun W ho=>⟨⟨cell_of_row _ _ 0 _ _ _ (ho.heap hk (by simp)),cell_of_row _ _ 1 _ _ _ (ho.heap hk (by simp))⟩,hA.trans ho⟩
 have cF:=af fun x W=>KR x k W
 clear hA hk h hiff;generalize L.length=N at*;change Hid _ at hC hK;obtain⟨ka,kb⟩:=k;go_enter Tryz.func224,Tryz.ntmps224
 go_wp2_with fail
 generalize(w.alloc (.cells #[.string ka,.string kb] 225))=w0 at*;generalize hkq:w.heap.size=kq at*;change Hid _ at hkq;go_loopg[9,10] N (fun m s9 s10 wr=> ∃i j:Nat,i<=pos/\pos<=j/\j<=N/\m=j-i/\s9=.int .i64 i/\s10=.int .i64 j/\Aside (ai [] w0 wr))
 case atStart=>exact⟨0,N,by omega,hp,by omega,by omega,rfl,rfl,ai.refl _ _⟩
 case round=>
  obtain⟨i,j,hi,hj,hjN,rfl,rfl,rfl,hO⟩:=hrel;by_cases hlt:i<j
  ·obtain⟨gb,o,x,rfl,⟨c0,c1,c2⟩,hif⟩:=hC.out wr ((i+j)/2) hO (by omega)
   obtain⟨⟨k0,k1⟩,_⟩:=hK.out wr hO;have cX:=fun W=>cF.out x W
   obtain⟨r,hr⟩: ∃r,xQ x (ka,kb)=r:=⟨_,rfl⟩;rw[hr]at cX hif;obtain⟨x0,x1,x2⟩:=x;unfold bK at cX;simp only at cX c0 c1 c2;have e1:(i+j)/2<N:=by omega
   have e3:(0:Int)<=((i:Int)+j)/2:=by omega
   have e4:((i:Int)+j)/2<(N:Int):=by omega
   have e2:(((i:Int)+j)/2).toNat=(i+j)/2:=by omega
   have kS:Hid (∀W,ai [] wr W->((W.cell? ⟨gb,o+((i+j)/2)*3,none⟩=some (.string x0)/\W.cell? ⟨gb,o+((i+j)/2)*3+1,none⟩=some (.string x1)/\W.cell? ⟨gb,o+((i+j)/2)*3+2,none⟩=some (.string x2))/\(W.cell? ⟨kq,0,none⟩=some (.string ka)/\W.cell? ⟨kq,1,none⟩=some (.string kb)))):=af fun W ho=>⟨⟨(ho.cell (block_lt_of_cell c0) (by simp)).trans c0,(ho.cell (block_lt_of_cell c1) (by simp)).trans c1,(ho.cell (block_lt_of_cell c2) (by simp)).trans c2⟩,(ho.cell (block_lt_of_cell k0) (by simp)).trans k0,(ho.cell (block_lt_of_cell k1) (by simp)).trans k1⟩
   have kW:=kS.out _ (ai.refl [] wr).drew;change Hid _ at cX;clear hr;by_cases hb:(i+j)/2<pos
   ·have hrn:decide (r<0)=true:=by simpa using hif.2 hb
    clear hif;go_wp2_with fail
    go_region_held3(fun W=>(W.cell? ⟨gb,o+((i+j)/2)*3,none⟩=some (.string x0)/\W.cell? ⟨gb,o+((i+j)/2)*3+1,none⟩=some (.string x1)/\W.cell? ⟨gb,o+((i+j)/2)*3+2,none⟩=some (.string x2))/\(W.cell? ⟨kq,0,none⟩=some (.string ka)/\W.cell? ⟨kq,1,none⟩=some (.string kb))) (first|with_reducible exact kA|with_reducible exact kW|go_keep) ((go_at_call 225;(with_reducible refine(cX.out _).mono ?_);rintro e w1 ⟨rfl,aH⟩;have kA:=kS.out _ ((ai.refl [] wr).drew.trans aH)))
    all_goals
     replace aH:=af (hO.trans ((ai.refl [] wr).drew.trans aH));clear kA kW kS c0 c1 c2 k0 k1;go_wp2_with fail
     go_roundg(j-((i+j)/2+1))
     case rel=>exact⟨(i+j)/2+1,j,by omega,hj,hjN,rfl,congrArg (Value.int .i64) (by omega),rfl,aH.out⟩
     case measure=>omega
   ·have hrn:decide (r<0)=false:=by simpa using fun h=>hb (hif.1 h)
    clear hif;go_wp2_with fail
    go_region_held3(fun W=>(W.cell? ⟨gb,o+((i+j)/2)*3,none⟩=some (.string x0)/\W.cell? ⟨gb,o+((i+j)/2)*3+1,none⟩=some (.string x1)/\W.cell? ⟨gb,o+((i+j)/2)*3+2,none⟩=some (.string x2))/\(W.cell? ⟨kq,0,none⟩=some (.string ka)/\W.cell? ⟨kq,1,none⟩=some (.string kb))) (first|with_reducible exact kA|with_reducible exact kW|go_keep) ((go_at_call 225;(with_reducible refine(cX.out _).mono ?_);rintro e w1 ⟨rfl,aH⟩;have kA:=kS.out _ ((ai.refl [] wr).drew.trans aH)))
    all_goals
     replace aH:=af (hO.trans ((ai.refl [] wr).drew.trans aH));clear kA kW kS c0 c1 c2 k0 k1;go_wp2_with fail
     go_roundg((i+j)/2-i)
     case rel=>exact⟨i,(i+j)/2,hi,by omega,by omega,rfl,rfl,congrArg (Value.int .i64) (by omega),aH.out⟩
     case measure=>omega
  ·obtain rfl:i=pos:=by omega
   by_cases hip:i<N
   ·obtain⟨gb,o,x,rfl,⟨c0,c1,c2⟩,hif⟩:=hC.out wr i hO hip
    obtain⟨⟨k0,k1⟩,_⟩:=hK.out wr hO;have cX:=fun W=>cF.out x W
    generalize xQ x (ka,kb)=r at*;obtain⟨x0,x1,x2⟩:=x;unfold bK at cX;simp only at cX c0 c1 c2;have kS:Hid (∀W,ai [] wr W->((W.cell? ⟨gb,o+i*3,none⟩=some (.string x0)/\W.cell? ⟨gb,o+i*3+1,none⟩=some (.string x1)/\W.cell? ⟨gb,o+i*3+2,none⟩=some (.string x2))/\(W.cell? ⟨kq,0,none⟩=some (.string ka)/\W.cell? ⟨kq,1,none⟩=some (.string kb)))):=af fun W ho=>⟨⟨(ho.cell (block_lt_of_cell c0) (by simp)).trans c0,(ho.cell (block_lt_of_cell c1) (by simp)).trans c1,(ho.cell (block_lt_of_cell c2) (by simp)).trans c2⟩,(ho.cell (block_lt_of_cell k0) (by simp)).trans k0,(ho.cell (block_lt_of_cell k1) (by simp)).trans k1⟩
    have kW:=kS.out _ (ai.refl [] wr).drew;change Hid _ at cX;have eu:=af fun W ho=>(hK.out W (hO.trans ho)).2
    clear hif;by_cases hr0:r=0
    ·have q:(r==0)=true:=by simpa using hr0
     clear hr0;go_wp2_with fail
     go_region_held3(fun W=>(W.cell? ⟨gb,o+i*3,none⟩=some (.string x0)/\W.cell? ⟨gb,o+i*3+1,none⟩=some (.string x1)/\W.cell? ⟨gb,o+i*3+2,none⟩=some (.string x2))/\(W.cell? ⟨kq,0,none⟩=some (.string ka)/\W.cell? ⟨kq,1,none⟩=some (.string kb))) (first|with_reducible exact kA|with_reducible exact kW|go_keep) ((go_at_call 225;(with_reducible refine(cX.out _).mono ?_);rintro e w1 ⟨rfl,aH⟩;have kA:=kS.out _ ((ai.refl [] wr).drew.trans aH)))
     all_goals
      replace aH:=af (eu.out _ ((ai.refl [] wr).drew.trans aH));clear kA kW kS c0 c1 c2 k0 k1;go_wp2_with fail
      go_ret2
      exact⟨⟨_,rfl⟩,aH.out⟩
    ·have q:(r==0)=false:=by simpa using hr0
     clear hr0;go_wp2_with fail
     go_region_held3(fun W=>(W.cell? ⟨gb,o+i*3,none⟩=some (.string x0)/\W.cell? ⟨gb,o+i*3+1,none⟩=some (.string x1)/\W.cell? ⟨gb,o+i*3+2,none⟩=some (.string x2))/\(W.cell? ⟨kq,0,none⟩=some (.string ka)/\W.cell? ⟨kq,1,none⟩=some (.string kb))) (first|with_reducible exact kA|with_reducible exact kW|go_keep) ((go_at_call 225;(with_reducible refine(cX.out _).mono ?_);rintro e w1 ⟨rfl,aH⟩;have kA:=kS.out _ ((ai.refl [] wr).drew.trans aH)))
     all_goals
      replace aH:=af (eu.out _ ((ai.refl [] wr).drew.trans aH));clear kA kW kS c0 c1 c2 k0 k1;go_wp2_with fail
      go_ret2
      exact⟨⟨_,rfl⟩,aH.out⟩
   ·have hO2:=af (hK.out wr hO).2
    have qi: ¬(i:Int)<(N:Int):=by omega
    have qd:decide ((i:Int)<(N:Int))=false:=by simpa using hip
    go_wp2_with fail
    go_quiet(fail)
    go_wp2_with fail
    go_ret2
    exact⟨⟨_,rfl⟩,hO2.out.drewN _⟩
end Go.Proofs.YtedcakchekaemaaGreatDoor
