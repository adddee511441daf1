/- SparkAsks: a node is asked just when an entry of it was refused and the gap since its last time has passed: plain law and walk, for messages whose topics hold at most 1048576 bytes. -/
import Derived.Test.YtedcakchekaemaaGreatDoorMp33
set_option maxRecDepth 100000
set_option maxHeartbeats 16000000
set_option linter.all false
namespace Go.Proofs.YtedcakchekaemaaGreatDoor
open Go.RowKit
variable [Kd]
def FP(T:iH)(k:ByteArray)(now:Int):Bool:=match aQ T k with
 |none=>true
 |some t=>decide (10<=now-t)
def o6(v:Vd):Bool:=decide (3<=v.code)&& !(v.g==ax)
def ZX(S:SP)(v:Vd):Bool:=decide ((v.g,v.n)∈S.nodes.map (·.1))
theorem NY{S:SP}{k:Rk}{p:SP×EN}(h:dV S k=some p):p.1.ra=S.ra:=by
 rcases kE h with⟨_,h2⟩|⟨_,_,rfl⟩
 ·rw[h2]
 ·rfl
structure SC (n:Nat) (S:SP) (T:iH):Prop where
 inv:jD n S
 same: ∀k,aQ S.ra k=aQ T k
theorem JF(l:iH){k k':ByteArray}(h:k≠k'):aQ (fU l k) k'=aQ l k':=by
 induction l with
 |nil=>rfl
 |cons p r ih=>
  unfold fU at ih⊢;by_cases hp:p.1=k
  ·have h1:(!(p.1==k))=false:=by simp[hp]
   rw[List.filter_cons,if_neg (by simp[h1]),ih];unfold aQ;rw[List.find?_cons_of_neg (by simpa[hp]using h)]
  ·have h1:(!(p.1==k))=true:=by simpa using hp
   rw[List.filter_cons,if_pos h1];unfold aQ at ih⊢;by_cases hp2:p.1=k'
   ·rw[List.find?_cons_of_pos (by simpa using hp2),List.find?_cons_of_pos (by simpa using hp2)]
   ·rw[List.find?_cons_of_neg (by simpa using hp2),List.find?_cons_of_neg (by simpa using hp2)];exact ih
theorem NZ{l:iH}{k:ByteArray}{t:Int}(h:pK l 10 k t=true)(q:ByteArray):aQ (uw l 10 k t) q=if q=k then some t else aQ l q:=by
 unfold uw;rw[if_pos h];by_cases hq:q=k
 ·subst hq;simp[aQ]
 ·rw[if_neg hq,<-JF l (k:=k) (k':=q) (fun e=>hq e.symm)]
  unfold aQ;rw[List.find?_cons_of_neg (by simpa using fun e=>hq e.symm)]
theorem WJ{n:Nat}{S:SP}{T:iH}(R:SC n S T)(now:Int)(hn:0<=now/\now<=1073741824)(t x:ByteArray):
  (aH S now t x).1.ask=(o6 (aH S now t x).1&&ZX (aH S now t x).2 (aH S now t x).1&&FP T (dz (aH S now t x).1.g (aH S now t x).1.n) now)/\
  SC (n+1) (aH S now t x).2 (if(aH S now t x).1.ask=true then bX T (dz (aH S now t x).1.g (aH S now t x).1.n) now else T):=by
 have hI:=xO R.inv now t x;have stay: ∀(v:Vd) (S':SP),v.ask=false->jD (n+1) S'->S'.ra=S.ra->(o6 v=false\/ZX S' v=false)->v.ask=(o6 v&&ZX S' v&&FP T (dz v.g v.n) now)/\SC (n+1) S' (if v.ask=true then bX T (dz v.g v.n) now else T):=fun v S' h1 h2 h3 h4=>by
  rw[h1];refine⟨?_,by rw[if_neg (by simp)];exact⟨h2,fun k=>by rw[h3];exact R.same k⟩⟩;rcases h4 with h4|h4<;>simp[h4]
 generalize hV:aH S now t x=V at hI⊢;unfold aH at hV;split at hV
 ·subst hV
  exact stay _ _ rfl hI rfl (.inl (by simp[o6]))
 split at hV
 ·subst hV
  exact stay _ _ rfl hI rfl (.inl (by simp[o6]))
 ·split at hV
  ·rename_i hk
   subst hV;refine stay _ _ rfl hI rfl ?_;unfold dV at hk;split at hk
   ·cases hk
   ·rename_i hg
    right
    unfold ZX;simpa using qj hg
  ·rename_i p hp
   obtain⟨hI1,hm⟩:=rQ R.inv hp;have hra:=(NY hp);generalize bQ t=s at*;unfold gQ at hV;split at hV
   ·subst hV
    exact stay _ _ rfl hI hra (.inl (by simp[o6]))
   split at hV
   ·rename_i h3
    subst hV;refine stay _ _ rfl hI hra (.inl ?_);have: ¬(3<=(fH p.2 s.k s.d x).1):=by omega
    simp[o6,this]
   ·rename_i h3
    have h3':3<=(fH p.2 s.k s.d x).1:=by omega
    have hgk:=hI1.gk _ hm;have hgn:(s.g==ax)=false:=by
     rw[beq_eq_false_iff_ne];intro e;have:=hgk.1;simp only at this;rw[e]at this;rw[show ax.toList=[]by rw[Lib.toList_data];rfl]at this;simp at this
    have hkn:(s.g,s.n)∈(bX p.1.nodes (s.g,s.n) (fH p.2 s.k s.d x).2).map (·.1):=by
     rw[mh (List.mem_map.2 ⟨_,hm,rfl⟩)];exact List.mem_map.2 ⟨_,hm,rfl⟩
    have hmay:pK p.1.ra 10 (dz s.g s.n) now=FP T (dz s.g s.n) now:=by
     unfold pK FP;rw[<-R.same,<-hra];have ht:ru now=true:=by unfold ru;simp[hn.1,hn.2]
     rw[ht,Bool.true_and];cases hg:aQ p.1.ra (dz s.g s.n)with
     |some t=>rfl
     |none=>
      simp only[decide_eq_true_eq];have hno:dz s.g s.n∉p.1.ra.map (·.1):=fun hx=>by
       obtain⟨q,hq,e⟩:=List.mem_map.1 hx;exact(dW _ _).1 hg q hq e
      have h1:(dz s.g s.n::p.1.ra.map (·.1)).Nodup:=List.nodup_cons.2 ⟨hno,hI1.rn⟩;have h2:=lK (l':=(p.1.nodes.map (·.1)).map fun q=>dz q.1 q.2) h1 (fun y hy=>by
       rcases List.mem_cons.1 hy with rfl|hy
       ·exact List.mem_map.2 ⟨(s.g,s.n),List.mem_map.2 ⟨_,hm,rfl⟩,rfl⟩
       ·obtain⟨q,hq,e⟩:=hI1.ra y hy
        exact List.mem_map.2 ⟨q,hq,e.symm⟩)
      have:=hI1.n8;simp at h2;omega
    subst hV;refine⟨?_,hI,fun k=>?_⟩
    ·show pK p.1.ra 10 (dz s.g s.n) now=_
     rw[hmay];unfold o6 ZX;simp only[h3',hgn,hkn,decide_true,Bool.not_false,Bool.and_true,Bool.true_and]
    ·show aQ (uw p.1.ra 10 (dz s.g s.n) now) k=aQ (if pK p.1.ra 10 (dz s.g s.n) now=true then bX T (dz s.g s.n) now else T) k
     by_cases hm':pK p.1.ra 10 (dz s.g s.n) now=true
     ·rw[NZ hm',if_pos hm',qm,hra,R.same]
     ·have e1:uw p.1.ra 10 (dz s.g s.n) now=p.1.ra:=by unfold uw;rw[if_neg hm']
      rw[if_neg hm',e1,hra,R.same]
theorem SE{w:World}{g cap i:Nat}{L:List Int}(h:si 3 iL 1 w g cap L)(hi:i<L.length)(x:Int):si 3 iL 1 (w.setCell ⟨g,i,none⟩ (.int .i64 x)) g cap (L.set i x)/\ai [g] w (w.setCell ⟨g,i,none⟩ (.int .i64 x)):=by
 obtain⟨cur,hb,h1,h2,h3,h4⟩:=h;have hr: ∀l:List Int,aI iL l=l.map fun z=>Value.int .i64 z:=fun l=>by
  unfold aI iL;induction l with
  |nil=>rfl
  |cons y r ih=>simp only[List.flatMap_cons,List.map_cons,List.singleton_append,ih]
 refine⟨⟨cur.setIfInBounds i (.int .i64 x),heap_setCell_same _ _ _ _ _ _ hb,by simpa using h1,h2,by simpa using h3,?_⟩,(ai.refl _ _).setCell (.inl (by simp)) _⟩;rw[hr]at h4⊢;simp only[Nat.mul_one,List.length_set,Array.toList_setIfInBounds,List.map_set]at h4⊢;rw[List.take_set,h4]
structure qo (w0 wr:World) (n:Nat) (K:aW) (A:List ByteArray) (B:List Int) (v7 v8:Value):Prop where
 sk:tC w0 wr n K
 who:Sl 9 Du 1 w0.heap.size wr v7 A
 wen:Sl 3 iL 1 w0.heap.size wr v8 B
 a7: ∀b,v7.ownBlock=some b->b∉K.feet
 a8: ∀b,v8.ownBlock=some b->b∉K.feet
 a78: ∀b,v7.ownBlock=some b->v8.ownBlock≠some b
section
variable {w0 wr w2 : World} {n m : Nat} {K K' : aW} {A : List ByteArray} {B : List Int} {v7 v8 v' : Value}
theorem qo.nil'(H:qo w0 wr n K A B v7 v8)(ho:ai [] wr w2):qo w0 w2 n K A B v7 v8:=⟨H.sk.nil' ho,H.who.nil' ho,H.wen.nil' ho,H.a7,H.a8,H.a78⟩
theorem qo.take(H:qo w0 wr n K A B v7 v8)(hk:tC w0 w2 m K')(ho:ai K.feet wr w2)(hf: ∀z∈K'.feet,z∈K.feet\/wr.heap.size<=z):qo w0 w2 m K' A B v7 v8:=
 ⟨hk,H.who.own ho H.a7,H.wen.own ho H.a8,fun b hb hx=>by
  rcases hf b hx with h1|h1
  ·exact H.a7 b hb h1
  ·have:=(H.who.block hb).2;omega,fun b hb hx=>by
  rcases hf b hx with h1|h1
  ·exact H.a8 b hb h1
  ·have:=(H.wen.block hb).2;omega,H.a78⟩
theorem qo.push7{A':List ByteArray}(H:qo w0 wr n K A B v7 v8)(hS:Sl 9 Du 1 w0.heap.size w2 v' A')(hg: ∀g,v'.ownBlock=some g->v7.ownBlock=some g\/wr.heap.size<=g)(ho:ai v7.ownBlock.toList wr w2):qo w0 w2 n K A' B v' v8:=by
 refine⟨H.sk.ow ho (fun z hz hx=>H.a7 z (Option.mem_toList.1 hx) hz) (fun z hz=>(H.who.block (Option.mem_toList.1 hz)).1),hS,H.wen.own ho (fun b hb hx=>H.a78 b (Option.mem_toList.1 hx) hb),fun b hb hx=>?_,H.a8,fun b hb hx=>?_⟩
 ·rcases hg b hb with h1|h1
  ·exact H.a7 b h1 hx
  ·have:=(H.sk.lt b hx).2;omega
 ·rcases hg b hb with h1|h1
  ·exact H.a78 b h1 hx
  ·have:=(H.wen.block hx).2;omega
theorem qo.push8{B':List Int}(H:qo w0 wr n K A B v7 v8)(hS:Sl 3 iL 1 w0.heap.size w2 v' B')(hg: ∀g,v'.ownBlock=some g->v8.ownBlock=some g\/wr.heap.size<=g)(ho:ai v8.ownBlock.toList wr w2):qo w0 w2 n K A B' v7 v':=by
 refine⟨H.sk.ow ho (fun z hz hx=>H.a8 z (Option.mem_toList.1 hx) hz) (fun z hz=>(H.wen.block (Option.mem_toList.1 hz)).1),H.who.own ho (fun b hb hx=>H.a78 b hb (Option.mem_toList.1 hx)),hS,H.a7,fun b hb hx=>?_,fun b hb hx=>?_⟩
 ·rcases hg b hb with h1|h1
  ·exact H.a8 b h1 hx
  ·have:=(H.sk.lt b hx).2;omega
 ·rcases hg b hx with h1|h1
  ·exact H.a78 b hb h1
  ·have:=(H.who.block hb).2;omega
theorem qo.set8(H:qo w0 wr n K A B v7 v8){i:Nat}(hi:i<B.length)(x:Int): ∃g cap,v8=.slice (some ⟨g,0,none⟩) B.length cap/\(wr.cell? ⟨g,i,none⟩=some (.int .i64 (B.getD i 0))/\wr.frozen? ⟨g,i,none⟩=false)/\ ∀w2,ai [] wr w2->qo w0 (w2.setCell ⟨g,i,none⟩ (.int .i64 x)) n K A (B.set i x) v7 v8:=by
 rcases H.wen.form with⟨_,h2⟩|⟨g,cap,rfl,h2,hR⟩
 ·rw[h2]at hi;simp at hi
 ·have hc:=hR.cell (fun _=>rfl) (i:=i) (c:=0) (List.getElem?_eq_getElem hi) (v:=.int .i64 B[i]) rfl
  simp only[Nat.mul_one,Nat.add_zero]at hc;refine⟨g,cap,rfl,⟨by rw[hc];simp[List.getD,hi],hR.frozen _⟩,fun w2 ho=>?_⟩;obtain⟨h3,h4⟩:=SE (hR.own ho (by simp)) hi x;have h5:=(H.nil' ho);have hgK: ∀z∈K.feet,z∉[g]:=fun z hz hx=>by
   simp at hx;subst hx;exact H.a8 z rfl hz
  refine⟨h5.sk.ow h4 hgK (fun z hz=>by simp at hz;subst hz;exact h2),h5.who.own h4 (fun b hb hx=>by simp at hx;subst hx;exact H.a78 b hb rfl),?_,H.a7,H.a8,H.a78⟩;have:=Sl.of_row h3 (fun _=>rfl) h2;rwa[List.length_set]at this
theorem qo.key(H:qo w0 wr n K A B v7 v8){i:Nat}(hi:i<A.length): ∃g cap,v7=.slice (some ⟨g,0,none⟩) A.length cap/\ ∀W,ai [] wr W->W.cell? ⟨g,i,none⟩=some (.string (A.getD i ⟨#[]⟩)):=by
 rcases H.who.form with⟨_,h2⟩|⟨g,cap,rfl,h2,hR⟩
 ·rw[h2]at hi;simp at hi
 ·refine⟨g,cap,rfl,fun W ho=>?_⟩
  have hc:=(hR.own ho (by simp)).cell (fun _=>rfl) (i:=i) (c:=0) (List.getElem?_eq_getElem hi) (v:=.string A[i]) rfl;simp only[Nat.mul_one,Nat.add_zero]at hc;rw[hc];simp[List.getD,hi]
end
end Go.Proofs.YtedcakchekaemaaGreatDoor
namespace Go.Proofs.YtedcakchekaemaaGreatDoor
open Go.RowKit
variable [Kd]
theorem SF{T:iH}{key:ByteArray}(h: ∀j,j<T.length->(T.map (·.1)).getD j ⟨#[]⟩≠key):aQ T key=none/\ ∀v,bX T key v=T++[(key,v)]:=by
 induction T with
 |nil=>exact⟨rfl,fun v=>rfl⟩
 |cons p r ih=>
  have h0:p.1≠key:=by have:=h 0 (by simp);simpa using this
  obtain⟨h1,h2⟩:=ih (fun j hj=>by have:=h (j+1) (by simp;omega);simpa using this);have hb:(p.1==key)=false:=by rw[beq_eq_false_iff_ne];exact h0
  refine⟨?_,fun v=>?_⟩
  ·unfold aQ at h1⊢
   rw[List.find?_cons,hb];exact h1
  ·unfold bX
   rw[if_neg (by simpa using h0),h2 v];rfl
theorem FQ: ∀{T:iH} {key:ByteArray} {i:Nat},i<T.length->(∀j,j<i->(T.map (·.1)).getD j ⟨#[]⟩≠key)->(T.map (·.1)).getD i ⟨#[]⟩=key->aQ T key=some ((T.map (·.2)).getD i 0)/\ ∀v,(bX T key v).map (·.1)=T.map (·.1)/\(bX T key v).map (·.2)=(T.map (·.2)).set i v
 | [],_,i,hi,_,_=>by simp at hi
 |p::r,key,0,_,_,he=>by
  have h0:p.1=key:=by simpa using he
  have hb:(p.1==key)=true:=by simpa using h0
  refine⟨?_,fun v=>?_⟩
  ·unfold aQ;rw[List.find?_cons,hb];simp
  ·unfold bX;rw[if_pos hb];simp[h0]
 |p::r,key,i+1,hi,h,he=>by
  have h0:p.1≠key:=by have:=h 0 (by omega);simpa using this
  have hb:(p.1==key)=false:=by rw[beq_eq_false_iff_ne];exact h0
  obtain⟨h1,h2⟩:=FQ (T:=r) (key:=key) (i:=i) (by simpa using hi) (fun j hj=>by have:=h (j+1) (by omega);simpa using this) (by simpa using he);refine⟨?_,fun v=>?_⟩
  ·unfold aQ at h1⊢
   rw[List.find?_cons,hb];simpa using h1
  ·unfold bX
   rw[if_neg (by simpa using h0)];simp[h2 v]
theorem SG(S:SP)(a:Int)(t x:ByteArray):(aH S a t x).1.g.size<=1048576/\(aH S a t x).1.n.size<=1048576:=by
 have h:=zQ t;have hz:ax.size<=1048576:=by decide
 unfold aH;split
 ·exact⟨hz,hz⟩
 split
 ·exact⟨hz,h.2⟩
 ·split
  ·exact h
  ·unfold gQ
   split
   ·exact h
   split
   ·exact h
   ·exact h
abbrev BG(T:iH)(i:Nat):ByteArray:=(T.map (·.1)).getD i ⟨#[]⟩
theorem zR{k:ByteArray}{v:Int}{q:ByteArray×Int}: ∀{l:iH},q∈bX l k v->q=(k,v)\/q∈l
 | [],h=>by unfold bX at h;exact .inl (by simpa using h)
 |p::r,h=>by
  unfold bX at h;split at h
  ·rcases List.mem_cons.1 h with h|h
   ·exact .inl h
   ·exact .inr (List.mem_cons_of_mem _ h)
  ·rcases List.mem_cons.1 h with h|h
   ·exact .inr (by rw[h];exact List.mem_cons_self)
   ·exact(zR h).imp id (List.mem_cons_of_mem _)
theorem N7{T:iH}(h: ∀p∈T,0<=p.2/\p.2<=1000)(i:Nat):0<=(T.map (·.2)).getD i 0/\(T.map (·.2)).getD i 0<=1000:=by
 rw[List.getD_eq_getElem?_getD];cases hx:(T.map (·.2))[i]? with
 |none=>exact⟨Int.le_refl _,by simp⟩
 |some y=>
  obtain⟨p,hp,rfl⟩:=List.mem_map.1 (List.mem_of_getElem? hx);exact h p hp
def zS(TV:List gN)(j:Nat)(g n:ByteArray):Bool:=(TV.take j).any fun x=>x.g.toList==g.toList&&x.nm.toList==n.toList
theorem o7{TV:List gN}{j:Nat}(g n:ByteArray)(h:j<TV.length):zS TV (j+1) g n=(zS TV j g n||((TV[j].g.toList==g.toList)&&(TV[j].nm.toList==n.toList))):=by
 unfold zS;rw[List.take_add_one,List.getElem?_eq_getElem h,List.any_append];simp
theorem xh{TV:List gN}{S:SP}{vd:Vd}(h:(TV.map gN.say).Perm S.nodes):zS TV TV.length vd.g vd.n=ZX S vd:=by
 unfold zS ZX;rw[List.take_length,Bool.eq_iff_iff,List.any_eq_true,decide_eq_true_iff];constructor
 ·rintro⟨x,hx,hh⟩
  simp only[Bool.and_eq_true,beq_iff_eq]at hh;refine List.mem_map.2 ⟨x.say,h.mem_iff.1 (List.mem_map.2 ⟨x,hx,rfl⟩),?_⟩;unfold gN.say gN.key;simp only;rw[dA hh.1,dA hh.2]
 ·intro hh
  obtain⟨y,hy,e⟩:=List.mem_map.1 hh;obtain⟨x,hx,rfl⟩:=List.mem_map.1 (h.mem_iff.2 hy);refine⟨x,hx,?_⟩;unfold gN.say gN.key at e;simp only[Prod.mk.injEq]at e;simp[e.1,e.2]
theorem jZ{B:Nat}{w5:World}{av:Option Addr}{n cv:Nat}{TV:List gN}(h:Sl 38 rR 8 B w5 (.slice av n cv) TV){j:Nat}(hj:j<TV.length): ∃gv,av=some ⟨gv,0,none⟩/\ ∀W,ai [] w5 W->W.cell? ⟨gv,j*8,none⟩=some (.string TV[j].g)/\W.cell? ⟨gv,j*8+1,none⟩=some (.string TV[j].nm):=by
 rcases h.form with⟨_,h2⟩|⟨g,cap,h1,h2,hR⟩
 ·rw[h2]at hj;simp at hj
 ·cases h1
  refine⟨g,rfl,fun W ho=>⟨?_,?_⟩⟩
  ·exact(hR.own ho (by simp)).cell kF (c:=0) (List.getElem?_eq_getElem hj) rfl
  ·exact(hR.own ho (by simp)).cell kF (c:=1) (List.getElem?_eq_getElem hj) rfl
theorem SH{w w':World}{K:aW}(H:tC w w' 0 K):qo w w' 0 K [] [] (.slice none 0 0) (.slice none 0 0):=⟨H,Sl.nil _ _ _,Sl.nil _ _ _,fun b hb=>(by cases hb),fun b hb=>(by cases hb),fun b hb=>(by cases hb)⟩
theorem N8(a0:Option Addr)(n0 c0:Nat)(ms:Nat->xW)(a1:Option Addr)(n1 c1:Nat)(zs:Nat->Int)(w:World)(h0:Dc w a0 n0 ms)(h1:qX .u8 w a1 n1 zs)(hL:mF w)
  (hA: ∀W,ai [] w W->Calls Tryz.prog 11 #[] W fun e w'=>e=.returned (.bool true)/\ai [] W w'):
  Calls Tryz.prog 3 #[.slice a0 n0 c0,.slice a1 n1 c1] w fun e w'=>e=.returned (.bool true)/\Below w.heap.size w w':=by
 have hl0:n0<=9223372036854775807:=by have:=h0.1;simp only[maxLen]at this;omega
 have hl1:n1<=9223372036854775807:=h1.1;have cN:=af (JE w w (ai.refl _ _));replace h0:=af h0;replace h1:=af h1.2;change Hid _ at hA hL;go_enter Tryz.func3,Tryz.ntmps3
 go_wp2_with fail
 with_reducible refine cN.out.mono ?_
 rintro e w1 ⟨K0,rfl,hS0,YA,iE,abb⟩;have hJ0:=af (SH hS0);have hR0:Hid (SC 0 K0.sp []):=af ⟨hS0.inv,fun k=>by rw[YA];rfl⟩;generalize hp0:K0.p=p0;clear hS0 iE abb cN;go_wp2_with fail
 go_loopg[6,7,8,9] 40 (fun g s6 s7 s8 s9 wr=> ∃(k n:Nat) (K:aW) (T:iH) (now:Int),k<=n0/\k<=n1/\k<=40/\g=40-k/\s9=.int .i64 k/\s6=.int .i64 now/\K.p=p0/\Aside ((0<=now/\now<=15*k)/\(n<=k/\T.length<=k)/\qo w wr n K (T.map (·.1)) (T.map (·.2)) s7 s8/\(∀p∈T,0<=p.2/\p.2<=1000)/\SC n K.sp T))
 case atStart=>exact⟨0,0,K0,[],0,by omega,by omega,by omega,rfl,rfl,rfl,hp0,⟨by omega,by omega⟩,⟨by omega,by simp⟩,hJ0.out,by simp,hR0.out⟩
 case round=>
  obtain⟨k,n,K,T,now,hk0,hk1,agq,rfl,rfl,rfl,hp,hAs⟩:=hrel;obtain⟨⟨ajn,ajo⟩,⟨hnk,J6⟩,hM,OB,hR⟩:=hAs;have dK:=hM.sk.own;clear hJ0 hR0;by_cases hlt:k<n0/\k<n1/\k<40
  ·obtain⟨k1,k2,k3⟩:=hlt
   obtain⟨b1,o1,rfl,hts,hb1,hx⟩:=h0.out.at' dK k1;obtain⟨b2,o2,rfl,hb2,hc2⟩:=h1.out (by omega);have hz:=(hc2 k k2).2;have hcs:wr.cell? ⟨b2,o2+k,none⟩=some (.int .u8 (zs k)):=(dK.cell (p:=⟨b2,o2+k,none⟩) hb2 (by simp)).trans (hc2 k k2).1;obtain⟨hz0,hz1⟩:=bounds_u8 hz;generalize zs k=s at*;generalize hmk:ms k=m at*;obtain⟨mt,mx,mq,mr⟩:=m;simp only at hts hx;obtain⟨d0,d1,d2,d3⟩:=hx wr dK;have k3':(k:Int)<40:=by omega
   by_cases hbig:1500<mx.size
   ·have hbig':(1500:Int)<mx.size:=by omega
    change Hid _ at hR;replace hM:=af hM;replace dK:=af dK;clear hx hz hc2;obtain⟨a7,c7,hs7⟩:=hM.out.who.sl;obtain⟨a8,c8,nJ⟩:=hM.out.wen.sl;go_wp2_with fail
    go_roundg(40-(k+1))
    case measure=>omega
    case rel=>exact⟨k+1,n,K,T,now,by omega,by omega,by omega,by omega,by go_num,rfl,hp,⟨by omega,by omega⟩,⟨by omega,by omega⟩,hM.out,OB,hR.out⟩
   ·have hbig': ¬(1500:Int)<mx.size:=by omega
    have tF:0<=now+s%16/\now+s%16<=15*(k+1):=by omega
    have cT:=mG w wr n K (now+s%16) mt mx mq mr hM.sk hL.out hts (by omega) (by omega);have Ad:=WJ hR (now+s%16) ⟨by omega,by omega⟩ mt mx;have hvs:=SG K.sp (now+s%16) mt mx;rw[hp]at cT;generalize aH K.sp (now+s%16) mt mx=V at cT Ad hvs;obtain⟨⟨vc,vg,vn,va⟩,S2⟩:=V;unfold KW at cT;simp only at cT Ad hvs;change Hid _ at hR Ad;replace hM:=af hM;replace dK:=af dK;replace cT:=af cT;clear hx hz hc2;go_wp2_with fail
    with_reducible refine cT.out.mono ?_
    rintro e w2 ⟨rfl,K2,hS2,hsp2,hp2,hO2,hf2⟩;have hM2:=hM.out.take hS2 hO2 hf2;obtain⟨a7,c7,rfl⟩:=hM2.who.sl;obtain⟨a8,c8,rfl⟩:=hM2.wen.sl;simp only[List.length_map]at hM2⊢;change Hid _ at hsp2 hp2;replace hM2:=af hM2;clear cT hS2 hO2 hf2 hM hR d0 d1 d2 d3 hcs;obtain⟨hvg,hvn⟩:=hvs;go_wp2_with fail
    have eO:=hM2.out.nil' ((ai.refl [] w2).alloc (.cells #[.int .i64 vc,.string vg,.string vn,.bool va] 31));have hq3:=heap_alloc_new w2 (.cells #[.int .i64 vc,.string vg,.string vn,.bool va] 31);generalize(w2.alloc (.cells #[.int .i64 vc,.string vg,.string vn,.bool va] 31))=W3 at*;generalize w2.heap.size=q at*;change Hid _ at hq3;replace eO:=af eO;generalize wr=wq at*;clear hM2;have i1: ¬9223372036854775807<vg.size+1:=by omega
    have i2: ¬9223372036854775807<vg.size+1+vn.size:=by omega
    have i3: ¬9223372036854775807<(vg++⟨#[47]⟩).size+vn.size:=by
     rw[ByteArray.size_append];show¬9223372036854775807<vg.size+1+vn.size;omega
    have cV:Hid (∀W,ai [] W3 W->Calls Tryz.prog 10 #[aN p0] W (lJ S2 W)):=af fun W ho=>by
     have:=o5 K2 W ((eO.out.nil' ho).sk.sk);rw[hp2.out,hsp2.out]at this;exact this
    go_loopg[11] T.length (fun g s11 wr=> ∃i:Nat,i<=T.length/\g=T.length-i/\s11=.int .i64 i/\Aside (ai [] W3 wr/\ ∀j,j<i->BG T j≠dz vg vn))
    case atStart=>exact⟨0,by omega,by omega,rfl,ai.refl _ _,fun j hj=>by omega⟩
    case round=>
     obtain⟨i,hi,rfl,rfl,hO3,hno⟩:=hrel;obtain⟨e0,e1,e2,e3⟩:=fI (hO3.heap hq3.out (by simp));have xX:=af (eO.out.nil' hO3);by_cases hil:i<T.length
     ·obtain⟨g7,ajp,he7,hk7⟩:=eO.out.key (i:=i) (by simpa using hil)
      simp only[Value.slice.injEq]at he7;obtain⟨rfl,-,rfl⟩:=he7;have ky:=hk7 wr hO3;clear hk7;by_cases he:BG T i=dz vg vn
      ·have hne:((BG T i).toList==(vg++⟨#[47]⟩++vn).toList)=true:=by rw[he];simp[dz]
       obtain⟨hget,hput⟩:=FQ hil hno he;obtain⟨g8,ajq,he8,⟨c8',f8'⟩,_⟩:=xX.out.set8 (i:=i) (by simpa using hil) 0;simp only[Value.slice.injEq]at he8;obtain⟨he8,-,-⟩:=he8;subst he8;have htt:=N7 OB i;generalize(T.map (·.2)).getD i 0=tt at hget c8' htt;have hdu:Hid (FP T (dz vg vn) (now+s%16)=decide (10<=now+s%16-tt)):=af (by unfold FP;rw[hget]);obtain⟨y,hy⟩: ∃y,BG T i=y:=⟨_,rfl⟩;rw[hy]at hne;rw[show(T.map (·.1)).getD i ⟨#[]⟩=y from hy]at ky;change Hid _ at hO3 hno he hput;replace hy:=af hy;clear hget;by_cases h3:3<=vc
       ·by_cases hg0:vg=ax
        ·have hg1:vg.toList.isEmpty=true:=by rw[hg0,show ax.toList=[]by rw[Lib.toList_data];rfl];rfl
         have hrf:Hid (o6 ⟨vc,vg,vn,va⟩=false):=af (by simp[o6,hg0]);change Hid _ at hg0;go_wp2_with fail
         go_quiet(fail)
         go_wp2_with fail
         refine(cV.out _ (hO3.out.drewN _)).mono ?_;rintro e w5 ⟨v,TV,rfl,j4,hsrt,mJ,hsh,aF⟩;obtain⟨av,cv,rfl⟩:=mJ.sl;have hkn:=xh (vd:=⟨vc,vg,vn,va⟩) j4;have hTV:TV.length<=8:=by have h8:=Ad.out.2.inv.n8;have h9:=j4.length_eq;simp only[List.length_map]at h9;omega
         have ol:=af ((hO3.out.drewN _).trans aF);change Hid _ at mJ hkn aF;clear j4 hsrt hsh e0 e1 e2 e3 ky;generalize wr=wu at*;go_wp2_with fail
         go_loopg[14,16] TV.length (fun g OY s16 wr=> ∃j:Nat,j<=TV.length/\g=TV.length-j/\s16=.int .i64 j/\OY=.bool (zS TV j vg vn)/\Aside (ai [] w5 wr))
         case atStart=>exact⟨0,by omega,by omega,rfl,rfl,ai.refl _ _⟩
         case round=>
          obtain⟨j,hj,rfl,rfl,rfl,bI⟩:=hrel;obtain⟨e0,e1,e2,e3⟩:=fI ((ol.out.trans bI).heap hq3.out (by simp));by_cases hjl:j<TV.length
          ·obtain⟨gv,rfl,hcv⟩:=jZ mJ.out hjl
           obtain⟨v0,v1⟩:=hcv wr bI;have hst:=o7 vg vn hjl;obtain⟨kb,hkb⟩: ∃b,zS TV j vg vn=b:=⟨_,rfl⟩;obtain⟨b1',hb1'⟩: ∃b,(TV[j].g.toList==vg.toList)=b:=⟨_,rfl⟩;obtain⟨b2',hb2'⟩: ∃b,(TV[j].nm.toList==vn.toList)=b:=⟨_,rfl⟩;rw[hkb,hb1',hb2']at hst;rw[hkb];generalize TV[j].g=x0 at*;generalize TV[j].nm=x1 at*;change Hid _ at bI hst hkb;clear hcv;cases kb
           case' false=>cases b1'
           all_goals
            go_wp2_with fail
            go_quiet(fail)
            go_wp2_with fail
            go_roundg(TV.length-(j+1))
            case measure=>omega
            case rel=>exact⟨j+1,by omega,rfl,by go_num,by rw[hst.out];try rfl,bI.out.drewN _⟩
          ·have Dv:j=TV.length:=by omega
           subst Dv;have hk2:=hkn.out;obtain⟨kn,hkn'⟩: ∃b,zS TV TV.length vg vn=b:=⟨_,rfl⟩;rw[hkn']at hk2⊢;obtain⟨hva,hR2⟩:=Ad.out;rw[<-hk2]at hva;have Ke:=af (eO.out.nil' (ol.out.trans bI));change Hid _ at bI;clear hkn hk2 hkn' Ad;rw[hrf.out,Bool.false_and,Bool.false_and]at hva;subst hva;rw[if_neg (by simp)]at hR2;change Hid _ at hR2;go_wp2_with fail
           go_roundg(40-(k+1))
           case measure=>omega
           case rel=>exact⟨k+1,n+1,K2,T,now+s%16,by omega,by omega,by omega,rfl,by go_num,rfl,hp2.out,⟨by omega,by omega⟩,⟨by omega,by omega⟩,Ke.out,OB,by rw[hsp2.out];exact hR2.out⟩
        ·have hg1:vg.toList.isEmpty=false:=by
          rw[Bool.eq_false_iff];intro hh;exact hg0 (dA (by rw[show ax.toList=[]by rw[Lib.toList_data];rfl];simpa using hh))
         have hrf:Hid (o6 ⟨vc,vg,vn,va⟩=true):=af (by simp[o6,hg0,h3]);change Hid _ at hg0;go_wp2_with fail
         go_quiet(fail)
         go_wp2_with fail
         refine(cV.out _ (hO3.out.drewN _)).mono ?_;rintro e w5 ⟨v,TV,rfl,j4,hsrt,mJ,hsh,aF⟩;obtain⟨av,cv,rfl⟩:=mJ.sl;have hkn:=xh (vd:=⟨vc,vg,vn,va⟩) j4;have hTV:TV.length<=8:=by have h8:=Ad.out.2.inv.n8;have h9:=j4.length_eq;simp only[List.length_map]at h9;omega
         have ol:=af ((hO3.out.drewN _).trans aF);change Hid _ at mJ hkn aF;clear j4 hsrt hsh e0 e1 e2 e3 ky;generalize wr=wu at*;go_wp2_with fail
         go_loopg[14,16] TV.length (fun g OY s16 wr=> ∃j:Nat,j<=TV.length/\g=TV.length-j/\s16=.int .i64 j/\OY=.bool (zS TV j vg vn)/\Aside (ai [] w5 wr))
         case atStart=>exact⟨0,by omega,by omega,rfl,rfl,ai.refl _ _⟩
         case round=>
          obtain⟨j,hj,rfl,rfl,rfl,bI⟩:=hrel;obtain⟨e0,e1,e2,e3⟩:=fI ((ol.out.trans bI).heap hq3.out (by simp));by_cases hjl:j<TV.length
          ·obtain⟨gv,rfl,hcv⟩:=jZ mJ.out hjl
           obtain⟨v0,v1⟩:=hcv wr bI;have hst:=o7 vg vn hjl;obtain⟨kb,hkb⟩: ∃b,zS TV j vg vn=b:=⟨_,rfl⟩;obtain⟨b1',hb1'⟩: ∃b,(TV[j].g.toList==vg.toList)=b:=⟨_,rfl⟩;obtain⟨b2',hb2'⟩: ∃b,(TV[j].nm.toList==vn.toList)=b:=⟨_,rfl⟩;rw[hkb,hb1',hb2']at hst;rw[hkb];generalize TV[j].g=x0 at*;generalize TV[j].nm=x1 at*;change Hid _ at bI hst hkb;clear hcv;cases kb
           case' false=>cases b1'
           all_goals
            go_wp2_with fail
            go_quiet(fail)
            go_wp2_with fail
            go_roundg(TV.length-(j+1))
            case measure=>omega
            case rel=>exact⟨j+1,by omega,rfl,by go_num,by rw[hst.out];try rfl,bI.out.drewN _⟩
          ·have Dv:j=TV.length:=by omega
           subst Dv;have hk2:=hkn.out;obtain⟨kn,hkn'⟩: ∃b,zS TV TV.length vg vn=b:=⟨_,rfl⟩;rw[hkn']at hk2⊢;obtain⟨hva,hR2⟩:=Ad.out;rw[<-hk2]at hva;have Ke:=af (eO.out.nil' (ol.out.trans bI));change Hid _ at bI;clear hkn hk2 hkn' Ad;rw[hrf.out,Bool.true_and,hdu.out]at hva;cases kn
           ·rw[Bool.false_and]at hva
            subst hva;rw[if_neg (by simp)]at hR2;change Hid _ at hR2;go_wp2_with fail
            go_roundg(40-(k+1))
            case measure=>omega
            case rel=>exact⟨k+1,n+1,K2,T,now+s%16,by omega,by omega,by omega,rfl,by go_num,rfl,hp2.out,⟨by omega,by omega⟩,⟨by omega,by omega⟩,Ke.out,OB,by rw[hsp2.out];exact hR2.out⟩
           ·rw[Bool.true_and]at hva
            by_cases hd:10<=now+s%16-tt
            ·rw[decide_eq_true hd]at hva
             subst hva;rw[if_pos rfl]at hR2;have hpm:=(hput.out (now+s%16));generalize mX:bX T (dz vg vn) (now+s%16)=T2 at*;change Hid _ at hR2;obtain⟨g9,ajt,he9,⟨z8,zf⟩,hset⟩:=Ke.out.set8 (i:=i) (by simpa using hil) (now+s%16);simp only[Value.slice.injEq]at he9;obtain⟨he9,-,-⟩:=he9;cases he9;change Hid _ at hset;go_wp2_with fail
             go_roundg(40-(k+1))
             case measure=>omega
             case rel=>exact⟨k+1,n+1,K2,T2,now+s%16,by omega,by omega,by omega,rfl,by go_num,rfl,hp2.out,⟨by omega,by omega⟩,⟨by omega,by have:=congrArg List.length hpm.1;simp at this;omega⟩,by rw[hpm.1,hpm.2];exact hset.out _ (ai.refl _ _),fun p hp=>by rw[<-mX]at hp;rcases zR hp with rfl|hp;exact⟨by omega,by omega⟩;exact OB p hp,by rw[hsp2.out];exact hR2.out⟩
            ·rw[decide_eq_false hd]at hva
             subst hva;rw[if_neg (by simp)]at hR2;change Hid _ at hR2;go_wp2_with fail
             go_roundg(40-(k+1))
             case measure=>omega
             case rel=>exact⟨k+1,n+1,K2,T,now+s%16,by omega,by omega,by omega,rfl,by go_num,rfl,hp2.out,⟨by omega,by omega⟩,⟨by omega,by omega⟩,Ke.out,OB,by rw[hsp2.out];exact hR2.out⟩
       ·have hrf:Hid (o6 ⟨vc,vg,vn,va⟩=false):=af (by simp[o6,h3])
        go_wp2_with fail
        go_quiet(fail)
        go_wp2_with fail
        refine(cV.out _ (hO3.out.drewN _)).mono ?_;rintro e w5 ⟨v,TV,rfl,j4,hsrt,mJ,hsh,aF⟩;obtain⟨av,cv,rfl⟩:=mJ.sl;have hkn:=xh (vd:=⟨vc,vg,vn,va⟩) j4;have hTV:TV.length<=8:=by have h8:=Ad.out.2.inv.n8;have h9:=j4.length_eq;simp only[List.length_map]at h9;omega
        have ol:=af ((hO3.out.drewN _).trans aF);change Hid _ at mJ hkn aF;clear j4 hsrt hsh e0 e1 e2 e3 ky;generalize wr=wu at*;go_wp2_with fail
        go_loopg[14,16] TV.length (fun g OY s16 wr=> ∃j:Nat,j<=TV.length/\g=TV.length-j/\s16=.int .i64 j/\OY=.bool (zS TV j vg vn)/\Aside (ai [] w5 wr))
        case atStart=>exact⟨0,by omega,by omega,rfl,rfl,ai.refl _ _⟩
        case round=>
         obtain⟨j,hj,rfl,rfl,rfl,bI⟩:=hrel;obtain⟨e0,e1,e2,e3⟩:=fI ((ol.out.trans bI).heap hq3.out (by simp));by_cases hjl:j<TV.length
         ·obtain⟨gv,rfl,hcv⟩:=jZ mJ.out hjl
          obtain⟨v0,v1⟩:=hcv wr bI;have hst:=o7 vg vn hjl;obtain⟨kb,hkb⟩: ∃b,zS TV j vg vn=b:=⟨_,rfl⟩;obtain⟨b1',hb1'⟩: ∃b,(TV[j].g.toList==vg.toList)=b:=⟨_,rfl⟩;obtain⟨b2',hb2'⟩: ∃b,(TV[j].nm.toList==vn.toList)=b:=⟨_,rfl⟩;rw[hkb,hb1',hb2']at hst;rw[hkb];generalize TV[j].g=x0 at*;generalize TV[j].nm=x1 at*;change Hid _ at bI hst hkb;clear hcv;cases kb
          case' false=>cases b1'
          all_goals
           go_wp2_with fail
           go_quiet(fail)
           go_wp2_with fail
           go_roundg(TV.length-(j+1))
           case measure=>omega
           case rel=>exact⟨j+1,by omega,rfl,by go_num,by rw[hst.out];try rfl,bI.out.drewN _⟩
         ·have Dv:j=TV.length:=by omega
          subst Dv;have hk2:=hkn.out;obtain⟨kn,hkn'⟩: ∃b,zS TV TV.length vg vn=b:=⟨_,rfl⟩;rw[hkn']at hk2⊢;obtain⟨hva,hR2⟩:=Ad.out;rw[<-hk2]at hva;have Ke:=af (eO.out.nil' (ol.out.trans bI));change Hid _ at bI;clear hkn hk2 hkn' Ad;rw[hrf.out,Bool.false_and,Bool.false_and]at hva;subst hva;rw[if_neg (by simp)]at hR2;change Hid _ at hR2;go_wp2_with fail
          go_roundg(40-(k+1))
          case measure=>omega
          case rel=>exact⟨k+1,n+1,K2,T,now+s%16,by omega,by omega,by omega,rfl,by go_num,rfl,hp2.out,⟨by omega,by omega⟩,⟨by omega,by omega⟩,Ke.out,OB,by rw[hsp2.out];exact hR2.out⟩
      ·have hne:((BG T i).toList==(vg++⟨#[47]⟩++vn).toList)=false:=by
        rw[Bool.eq_false_iff];intro hh;exact he (dA (by simpa[dz]using hh))
       obtain⟨y,hy⟩: ∃y,BG T i=y:=⟨_,rfl⟩;rw[hy]at hne;rw[show(T.map (·.1)).getD i ⟨#[]⟩=y from hy]at ky;change Hid _ at hO3 he hno;replace hy:=af hy;go_wp2_with fail
       go_quiet(fail)
       go_wp2_with fail
       go_roundg(T.length-(i+1))
       case measure=>omega
       case rel=>exact⟨i+1,by omega,rfl,by go_num,hO3.out.drewN _,fun j hj=>by
        rcases Nat.lt_or_ge j i with h5|h5
        ·exact hno.out j h5
        ·have:j=i:=by omega
         subst this;rw[hy.out];exact fun e=>he.out (hy.out.trans e)⟩
     ·have hie:i=T.length:=by omega
      subst hie;obtain⟨hget,hput⟩:=SF hno;have hdu:Hid (FP T (dz vg vn) (now+s%16)=true):=af (by unfold FP;rw[hget]);change Hid _ at hO3 hno hput;have ky:True:=trivial;clear hget;by_cases h3:3<=vc
      ·by_cases hg0:vg=ax
       ·have hg1:vg.toList.isEmpty=true:=by rw[hg0,show ax.toList=[]by rw[Lib.toList_data];rfl];rfl
        have hrf:Hid (o6 ⟨vc,vg,vn,va⟩=false):=af (by simp[o6,hg0]);change Hid _ at hg0;go_wp2_with fail
        go_quiet(fail)
        go_wp2_with fail
        refine(cV.out _ (hO3.out.drewN _)).mono ?_;rintro e w5 ⟨v,TV,rfl,j4,hsrt,mJ,hsh,aF⟩;obtain⟨av,cv,rfl⟩:=mJ.sl;have hkn:=xh (vd:=⟨vc,vg,vn,va⟩) j4;have hTV:TV.length<=8:=by have h8:=Ad.out.2.inv.n8;have h9:=j4.length_eq;simp only[List.length_map]at h9;omega
        have ol:=af ((hO3.out.drewN _).trans aF);change Hid _ at mJ hkn aF;clear j4 hsrt hsh e0 e1 e2 e3 ky;generalize wr=wu at*;go_wp2_with fail
        go_loopg[14,16] TV.length (fun g OY s16 wr=> ∃j:Nat,j<=TV.length/\g=TV.length-j/\s16=.int .i64 j/\OY=.bool (zS TV j vg vn)/\Aside (ai [] w5 wr))
        case atStart=>exact⟨0,by omega,by omega,rfl,rfl,ai.refl _ _⟩
        case round=>
         obtain⟨j,hj,rfl,rfl,rfl,bI⟩:=hrel;obtain⟨e0,e1,e2,e3⟩:=fI ((ol.out.trans bI).heap hq3.out (by simp));by_cases hjl:j<TV.length
         ·obtain⟨gv,rfl,hcv⟩:=jZ mJ.out hjl
          obtain⟨v0,v1⟩:=hcv wr bI;have hst:=o7 vg vn hjl;obtain⟨kb,hkb⟩: ∃b,zS TV j vg vn=b:=⟨_,rfl⟩;obtain⟨b1',hb1'⟩: ∃b,(TV[j].g.toList==vg.toList)=b:=⟨_,rfl⟩;obtain⟨b2',hb2'⟩: ∃b,(TV[j].nm.toList==vn.toList)=b:=⟨_,rfl⟩;rw[hkb,hb1',hb2']at hst;rw[hkb];generalize TV[j].g=x0 at*;generalize TV[j].nm=x1 at*;change Hid _ at bI hst hkb;clear hcv;cases kb
          case' false=>cases b1'
          all_goals
           go_wp2_with fail
           go_quiet(fail)
           go_wp2_with fail
           go_roundg(TV.length-(j+1))
           case measure=>omega
           case rel=>exact⟨j+1,by omega,rfl,by go_num,by rw[hst.out];try rfl,bI.out.drewN _⟩
         ·have Dv:j=TV.length:=by omega
          subst Dv;have hk2:=hkn.out;obtain⟨kn,hkn'⟩: ∃b,zS TV TV.length vg vn=b:=⟨_,rfl⟩;rw[hkn']at hk2⊢;obtain⟨hva,hR2⟩:=Ad.out;rw[<-hk2]at hva;have Ke:=af (eO.out.nil' (ol.out.trans bI));change Hid _ at bI;clear hkn hk2 hkn' Ad;rw[hrf.out,Bool.false_and,Bool.false_and]at hva;subst hva;rw[if_neg (by simp)]at hR2;change Hid _ at hR2;go_wp2_with fail
          go_roundg(40-(k+1))
          case measure=>omega
          case rel=>exact⟨k+1,n+1,K2,T,now+s%16,by omega,by omega,by omega,rfl,by go_num,rfl,hp2.out,⟨by omega,by omega⟩,⟨by omega,by omega⟩,Ke.out,OB,by rw[hsp2.out];exact hR2.out⟩
       ·have hg1:vg.toList.isEmpty=false:=by
         rw[Bool.eq_false_iff];intro hh;exact hg0 (dA (by rw[show ax.toList=[]by rw[Lib.toList_data];rfl];simpa using hh))
        have hrf:Hid (o6 ⟨vc,vg,vn,va⟩=true):=af (by simp[o6,hg0,h3]);change Hid _ at hg0;go_wp2_with fail
        go_quiet(fail)
        go_wp2_with fail
        refine(cV.out _ (hO3.out.drewN _)).mono ?_;rintro e w5 ⟨v,TV,rfl,j4,hsrt,mJ,hsh,aF⟩;obtain⟨av,cv,rfl⟩:=mJ.sl;have hkn:=xh (vd:=⟨vc,vg,vn,va⟩) j4;have hTV:TV.length<=8:=by have h8:=Ad.out.2.inv.n8;have h9:=j4.length_eq;simp only[List.length_map]at h9;omega
        have ol:=af ((hO3.out.drewN _).trans aF);change Hid _ at mJ hkn aF;clear j4 hsrt hsh e0 e1 e2 e3 ky;generalize wr=wu at*;go_wp2_with fail
        go_loopg[14,16] TV.length (fun g OY s16 wr=> ∃j:Nat,j<=TV.length/\g=TV.length-j/\s16=.int .i64 j/\OY=.bool (zS TV j vg vn)/\Aside (ai [] w5 wr))
        case atStart=>exact⟨0,by omega,by omega,rfl,rfl,ai.refl _ _⟩
        case round=>
         obtain⟨j,hj,rfl,rfl,rfl,bI⟩:=hrel;obtain⟨e0,e1,e2,e3⟩:=fI ((ol.out.trans bI).heap hq3.out (by simp));by_cases hjl:j<TV.length
         ·obtain⟨gv,rfl,hcv⟩:=jZ mJ.out hjl
          obtain⟨v0,v1⟩:=hcv wr bI;have hst:=o7 vg vn hjl;obtain⟨kb,hkb⟩: ∃b,zS TV j vg vn=b:=⟨_,rfl⟩;obtain⟨b1',hb1'⟩: ∃b,(TV[j].g.toList==vg.toList)=b:=⟨_,rfl⟩;obtain⟨b2',hb2'⟩: ∃b,(TV[j].nm.toList==vn.toList)=b:=⟨_,rfl⟩;rw[hkb,hb1',hb2']at hst;rw[hkb];generalize TV[j].g=x0 at*;generalize TV[j].nm=x1 at*;change Hid _ at bI hst hkb;clear hcv;cases kb
          case' false=>cases b1'
          all_goals
           go_wp2_with fail
           go_quiet(fail)
           go_wp2_with fail
           go_roundg(TV.length-(j+1))
           case measure=>omega
           case rel=>exact⟨j+1,by omega,rfl,by go_num,by rw[hst.out];try rfl,bI.out.drewN _⟩
         ·have Dv:j=TV.length:=by omega
          subst Dv;have hk2:=hkn.out;obtain⟨kn,hkn'⟩: ∃b,zS TV TV.length vg vn=b:=⟨_,rfl⟩;rw[hkn']at hk2⊢;obtain⟨hva,hR2⟩:=Ad.out;rw[<-hk2]at hva;have Ke:=af (eO.out.nil' (ol.out.trans bI));change Hid _ at bI;clear hkn hk2 hkn' Ad;rw[hrf.out,Bool.true_and,hdu.out]at hva;cases kn
          ·rw[Bool.false_and]at hva
           subst hva;rw[if_neg (by simp)]at hR2;change Hid _ at hR2;go_wp2_with fail
           go_roundg(40-(k+1))
           case measure=>omega
           case rel=>exact⟨k+1,n+1,K2,T,now+s%16,by omega,by omega,by omega,rfl,by go_num,rfl,hp2.out,⟨by omega,by omega⟩,⟨by omega,by omega⟩,Ke.out,OB,by rw[hsp2.out];exact hR2.out⟩
          ·rw[Bool.true_and]at hva
           subst hva;rw[if_pos rfl,hput.out]at hR2;change Hid _ at hR2;have Ay:=af Ke.out.sk.own;have hA1:=af ((ai.refl [] wr).alloc (.cells #[.string (vg++⟨#[47]⟩++vn)] 9));have hR7:=af (aG.new (enc:=Du) (T:=9) wr (vg++⟨#[47]⟩++vn) 1);have hM7:=af (Ke.out.nil' hA1.out);go_wp2_with(first
            |(at_builtin;refine aT rfl (.tmp 143) (.tmp 150) rfl Cy (Ay.out.trans hA1.out) rfl hM7.out.who rfl hR7.out (by simp;omega) (by unfold maxLen;simp;omega) ?_;intro va7 w7 kI _ _ hg2 hg3;have U3:=hM7.out.push7 kI hg2 hg3;obtain⟨aa,ca,rfl⟩:=kI.sl;have hOb:=af U3.sk.own;have hA2:=af ((ai.refl [] w7).alloc (.cells #[.int .i64 (now+s%16)] 3));have hR8:=af (aG.new (enc:=iL) (T:=3) w7 (now+s%16) 1);have hM9:=af (U3.nil' hA2.out);clear kI hg2 hg3 U3)
            |(at_builtin;refine aT rfl (.tmp 152) (.tmp 154) rfl QF (hOb.out.trans hA2.out) rfl hM9.out.wen rfl hR8.out (by simp;omega) (by unfold maxLen;simp;omega) ?_;intro va8 w8 hSb _ _ hg4 hg5;have Za:=hM9.out.push8 hSb hg4 hg5;obtain⟨ab,cb,rfl⟩:=hSb.sl;replace Za:=af Za;clear hSb hg4 hg5))
           go_roundg(40-(k+1))
           case measure=>omega
           case rel=>exact⟨k+1,n+1,K2,T++[(dz vg vn,now+s%16)],now+s%16,by omega,by omega,by omega,rfl,by go_num,rfl,hp2.out,⟨by omega,by omega⟩,⟨by omega,by simp;omega⟩,by simpa[dz]using Za.out,fun p hp=>by rcases List.mem_append.1 hp with hp|hp;exact OB p hp;rw[List.mem_singleton]at hp;subst hp;exact⟨by omega,by omega⟩,by rw[hsp2.out];exact hR2.out⟩
      ·have hrf:Hid (o6 ⟨vc,vg,vn,va⟩=false):=af (by simp[o6,h3])
       go_wp2_with fail
       go_quiet(fail)
       go_wp2_with fail
       refine(cV.out _ (hO3.out.drewN _)).mono ?_;rintro e w5 ⟨v,TV,rfl,j4,hsrt,mJ,hsh,aF⟩;obtain⟨av,cv,rfl⟩:=mJ.sl;have hkn:=xh (vd:=⟨vc,vg,vn,va⟩) j4;have hTV:TV.length<=8:=by have h8:=Ad.out.2.inv.n8;have h9:=j4.length_eq;simp only[List.length_map]at h9;omega
       have ol:=af ((hO3.out.drewN _).trans aF);change Hid _ at mJ hkn aF;clear j4 hsrt hsh e0 e1 e2 e3 ky;generalize wr=wu at*;go_wp2_with fail
       go_loopg[14,16] TV.length (fun g OY s16 wr=> ∃j:Nat,j<=TV.length/\g=TV.length-j/\s16=.int .i64 j/\OY=.bool (zS TV j vg vn)/\Aside (ai [] w5 wr))
       case atStart=>exact⟨0,by omega,by omega,rfl,rfl,ai.refl _ _⟩
       case round=>
        obtain⟨j,hj,rfl,rfl,rfl,bI⟩:=hrel;obtain⟨e0,e1,e2,e3⟩:=fI ((ol.out.trans bI).heap hq3.out (by simp));by_cases hjl:j<TV.length
        ·obtain⟨gv,rfl,hcv⟩:=jZ mJ.out hjl
         obtain⟨v0,v1⟩:=hcv wr bI;have hst:=o7 vg vn hjl;obtain⟨kb,hkb⟩: ∃b,zS TV j vg vn=b:=⟨_,rfl⟩;obtain⟨b1',hb1'⟩: ∃b,(TV[j].g.toList==vg.toList)=b:=⟨_,rfl⟩;obtain⟨b2',hb2'⟩: ∃b,(TV[j].nm.toList==vn.toList)=b:=⟨_,rfl⟩;rw[hkb,hb1',hb2']at hst;rw[hkb];generalize TV[j].g=x0 at*;generalize TV[j].nm=x1 at*;change Hid _ at bI hst hkb;clear hcv;cases kb
         case' false=>cases b1'
         all_goals
          go_wp2_with fail
          go_quiet(fail)
          go_wp2_with fail
          go_roundg(TV.length-(j+1))
          case measure=>omega
          case rel=>exact⟨j+1,by omega,rfl,by go_num,by rw[hst.out];try rfl,bI.out.drewN _⟩
        ·have Dv:j=TV.length:=by omega
         subst Dv;have hk2:=hkn.out;obtain⟨kn,hkn'⟩: ∃b,zS TV TV.length vg vn=b:=⟨_,rfl⟩;rw[hkn']at hk2⊢;obtain⟨hva,hR2⟩:=Ad.out;rw[<-hk2]at hva;have Ke:=af (eO.out.nil' (ol.out.trans bI));change Hid _ at bI;clear hkn hk2 hkn' Ad;rw[hrf.out,Bool.false_and,Bool.false_and]at hva;subst hva;rw[if_neg (by simp)]at hR2;change Hid _ at hR2;go_wp2_with fail
         go_roundg(40-(k+1))
         case measure=>omega
         case rel=>exact⟨k+1,n+1,K2,T,now+s%16,by omega,by omega,by omega,rfl,by go_num,rfl,hp2.out,⟨by omega,by omega⟩,⟨by omega,by omega⟩,Ke.out,OB,by rw[hsp2.out];exact hR2.out⟩
  ·have hex:(¬k<n0)\/(k<n0/\ ¬k<n1)\/(k<n0/\k<n1/\ ¬((k:Int)<40)):=by omega
   have cA:=af (hA.out wr dK);change Hid _ at hR;replace hM:=af hM;replace dK:=af dK;clear hlt;rcases hex with h2|⟨h2,h3⟩|⟨h2,h3,h4⟩
   all_goals
    go_wp2_with(go_at_call 11;(with_reducible refine cA.out.mono ?_);rintro e w9 ⟨rfl,mU⟩;replace mU:=af mU)
    go_ret
    exact⟨rfl,(dK.out.trans mU.out).below (Nat.le_refl _) (by simp)⟩
end Go.Proofs.YtedcakchekaemaaGreatDoor
namespace Go.Proofs.YtedcakchekaemaaGreatDoor
open Go.RowKit
theorem SQ(a0:Option Addr)(n0 c0:Nat)(ms:Nat->xW)(a1:Option Addr)(n1 c1:Nat)(zs:Nat->Int)(w:World)(h0:Dc w a0 n0 ms)(_u:True)(h1:qX .u8 w a1 n1 zs)(hT:(∃kd:Kd,@mF kd w)/\pI w):
  Calls Tryz.prog 3 #[.slice a0 n0 c0,.slice a1 n1 c1] w fun e w'=>e=.returned (.bool true)/\Below w.heap.size w w':=by
 obtain⟨⟨kd,hL⟩,hT⟩:=hT;exact @N8 kd a0 n0 c0 ms a1 n1 c1 zs w h0 h1 hL (fun W ho=>Df W (hT.own ho))
end Go.Proofs.YtedcakchekaemaaGreatDoor
