/- Contracts of the program, part 2. -/
import Derived.Test.YtedcakchekaemaaGreatDoorMp01
import Derived.Deep.AppendLies
import Derived.SliceStrings
import Derived.Deep.Slices
import Derived.Deep.Upon
import Derived.Test.YtedcakchekaemaaGreatDoorRows
import Derived.OpenShut
import Derived.BigQuiet
import Derived.RangeFuncNested
import Derived.Shelf.Abstract
import Derived.OwnWalkIn
import Derived.TacticsInMore
import Derived.LoopNIn
import Derived.Sort.LoopGhostIn
set_option maxRecDepth 100000
set_option maxHeartbeats 16000000
set_option linter.all false
namespace Go.Proofs.YtedcakchekaemaaGreatDoor
open Go.RowKit
section
variable {α : Type} {enc : α → List Value} {k : Nat}
def aI(enc:α->List Value)(l:List α):List Value:=l.flatMap enc
theorem bq(hk: ∀x,(enc x).length=k)(l:List α):(aI enc l).length=l.length*k:=by
 induction l with
 |nil=>simp[aI]
 |cons x r ih=>
  simp only[aI,List.flatMap_cons,List.length_append,List.length_cons]at ih⊢;rw[ih,hk,Nat.succ_mul,Nat.add_comm]
theorem bV(l l':List α):aI enc (l++l')=aI enc l++aI enc l':=by simp[aI]
theorem fM(hk: ∀x,(enc x).length=k): ∀(l:List α) (i c:Nat) (x:α),l[i]?=some x->c<k->(aI enc l)[i*k+c]?=(enc x)[c]?
 | [],i,c,x,h,_=>by simp at h
 |y::r,0,c,x,h,hc=>by
  simp at h;subst h;simp only[aI,List.flatMap_cons,Nat.zero_mul,Nat.zero_add];rw[List.getElem?_append_left (by rw[hk];exact hc)]
 |y::r,i+1,c,x,h,hc=>by
  simp only[List.getElem?_cons_succ]at h;have ih:=fM hk r i c x h hc;simp only[aI,List.flatMap_cons]at ih⊢;rw[List.getElem?_append_right (by rw[hk,Nat.succ_mul];omega),hk,<-ih]
  congr 1
  rw[Nat.succ_mul];omega
def si(T:TypeId)(enc:α->List Value)(k:Nat)(w:World)(g cap:Nat)(l:List α):Prop:=
 ∃cur,w.heap[g]?=some (.cells cur T (0,0))/\l.length<=cap/\cap<=maxLen/\cur.size=cap*k/\cur.toList.take (l.length*k)=aI enc l
theorem si.own{T:TypeId}{S:List Nat}{w w':World}{g cap:Nat}{l:List α}(h:si T enc k w g cap l)(ho:ai S w w')(hg:g∉S):si T enc k w' g cap l:=
 let⟨cur,h1,h2⟩:=h;⟨cur,ho.heap h1 hg,h2⟩
theorem si.lt{T:TypeId}{w:World}{g cap:Nat}{l:List α}(h:si T enc k w g cap l):g<w.heap.size:=let⟨_,h1,_⟩:=h;aj h1
theorem si.of_owns{T:TypeId}{w:World}{base g cap n:Nat}{l:List α}(h:w.ownsRow base T k (.slice (some ⟨g,0,none⟩) n cap) n (aI enc l))(hn:n=l.length):si T enc k w g cap l:=by
 subst hn;rcases h.2 with⟨h0,_⟩|⟨g',cap',cur,he,_,hb,h1,h2,h3,h4⟩
 ·cases h0
 ·cases he
  exact⟨cur,hb,h1,h2,h3,h4⟩
theorem sj{T:TypeId}{w:World}{v:Value}{n:Nat}{l:List α}(h:w.ownsRow 0 T k v n (aI enc l))(hn:n=l.length)(hv:v≠ .slice none 0 0):
  ∃g cap,v=.slice (some ⟨g,0,none⟩) l.length cap/\si T enc k w g cap l:=by
 subst hn;rcases h.2 with⟨h0,_⟩|⟨g,cap,cur,he,_,hb,h1,h2,h3,h4⟩
 ·exact absurd h0 hv
 ·exact⟨g,cap,he,cur,hb,h1,h2,h3,h4⟩
theorem si.owns{T:TypeId}{w:World}{g cap:Nat}{l:List α}(h:si T enc k w g cap l)(hk: ∀x,(enc x).length=k):w.ownsRow 0 T k (.slice (some ⟨g,0,none⟩) l.length cap) l.length (aI enc l):=by
 obtain⟨cur,hb,h1,h2,h3,h4⟩:=h;exact⟨bq hk l,.inr ⟨g,cap,cur,rfl,Nat.zero_le _,hb,h1,h2,h3,h4⟩⟩
theorem si.flat{T:TypeId}{w:World}{g cap:Nat}{l:List α}(h:si T enc k w g cap l){t:Nat}{v:Value}(hv:(aI enc l)[t]?=some v)(ht:t<l.length*k):w.cell? ⟨g,t,none⟩=some v:=by
 obtain⟨cur,hb,h1,h2,h3,h4⟩:=h;rw[cell_of_row w g t cur _ _ hb];rw[<-h4,List.getElem?_take_of_lt ht,Array.getElem?_toList]at hv;exact hv
theorem si.cell{T:TypeId}{w:World}{g cap:Nat}{l:List α}(h:si T enc k w g cap l)(hk: ∀x,(enc x).length=k){i c:Nat}{x:α}{v:Value}(hx:l[i]?=some x)(hc:(enc x)[c]?=some v):w.cell? ⟨g,i*k+c,none⟩=some v:=by
 have hck:c<k:=by rw[<-hk x];exact(List.getElem?_eq_some_iff.1 hc).1
 have hi:i<l.length:=(List.getElem?_eq_some_iff.1 hx).1;refine h.flat ((fM hk l i c x hx hck).trans hc) ?_;have:(i+1)*k<=l.length*k:=Nat.mul_le_mul_right _ hi;rw[Nat.succ_mul]at this;omega
theorem si.frozen{T:TypeId}{w:World}{g cap:Nat}{l:List α}(h:si T enc k w g cap l)(j:Nat):w.frozen? ⟨g,j,none⟩=false:=by
 obtain⟨cur,hb,_⟩:=h;exact frozen_of_row w g j cur _ hb
theorem add_zero(b j:Nat):(⟨b,0,none⟩:Addr).add j=⟨b,j,none⟩:=by unfold Addr.add;split<;>simp_all
theorem GA{T:TypeId}(w:World):(w.alloc (.cells #[] T)).ownsRow 0 T k (.slice (some ⟨w.heap.size,0,none⟩) 0 0) 0 []:=
 ⟨by simp,.inr ⟨w.heap.size,0,#[],rfl,Nat.zero_le _,heap_alloc_new _ _,Nat.le_refl _,by unfold maxLen;omega,by simp,by simp⟩⟩
end
end Go.Proofs.YtedcakchekaemaaGreatDoor
namespace Go.Proofs.YtedcakchekaemaaGreatDoor
class Kd where
 kd:Int->Int
variable [Kd]
def ak(s:ByteArray):List Int:=s.data.toList.map fun b=>(b.toNat:Int)
theorem dX(s:ByteArray):(ak s).length=s.size:=by simp[ak]
def pE(B:List Int):Prop:= ∀x∈B,0<=x/\x<256
theorem bU(s:ByteArray):pE (ak s):=by
 intro x hx;obtain⟨b,_,rfl⟩:=List.mem_map.1 hx;have:=b.toNat_lt;omega
theorem pE.drop{B:List Int}(h:pE B)(i:Nat):pE (B.drop i):=fun x hx=>h x (List.mem_of_mem_drop hx)
theorem pE.take{B:List Int}(h:pE B)(i:Nat):pE (B.take i):=fun x hx=>h x (List.mem_of_mem_take hx)
theorem Aj{B:List Int}(h:pE B):ak (strOfNums B)=B:=by
 unfold ak strOfNums;simp only[List.map_map]
 conv=>rhs;rw[<-List.map_id B]
 apply List.map_congr_left;intro x hx;obtain⟨h0,h1⟩:=h x hx;simp only[Function.comp_apply,id,UInt8.toNat_ofNat'];omega
theorem ze(B:List Int):(strOfNums B).size=B.length:=by simp[strOfNums,ByteArray.size]
theorem xZ{m n:Nat}(h:m<=n):(2:Int)^m<=2^n:=by
 have:((2^m:Nat):Int)<=((2^n:Nat):Int):=Int.ofNat_le.2 (Nat.pow_le_pow_right (by omega) h);simpa using this
def tq:List Int->Nat->Int->Option (Int×Nat)
 | [],_,_=>none
 |c::r,k,v=>if k=9/\1<c then none else if c<128 then some (v+c%128*2^(7*k),k+1)else if 9<=k then none else tq r (k+1) (v+c%128*2^(7*k))
def oH(B:List Int)(i:Nat):Option (Int×Nat):=(tq (B.drop i) 0 0).map fun p=>(p.1,i+p.2)
theorem KA: ∀(l:List Int) (k:Nat) (v:Int),pE l->k<=9->0<=v->v<2^(7*k)-> ∀x n,tq l k v=some (x,n)->k<n/\n<=k+l.length/\0<=x/\x<=18446744073709551615
 | [],_,_,_,_,_,_,_,_,h=>by simp[tq]at h
 |c::r,k,v,hB,hk,h0,h1,x,n,h=>by
  obtain⟨c0,c1⟩:=hB c (by simp);have hp:(0:Int)<2^(7*k):=Int.pow_pos (by omega);have hm0:0<=c%128:=by omega
  have hm1:c%128<=127:=by omega
  have hpr:c%128*2^(7*k)<=127*2^(7*k):=Int.mul_le_mul_of_nonneg_right hm1 (Int.le_of_lt hp);have UA:0<=c%128*2^(7*k):=Int.mul_nonneg hm0 (Int.le_of_lt hp);unfold tq at h;by_cases h9:k=9/\1<c
  ·rw[if_pos h9]at h;cases h
  ·rw[if_neg h9]at h
   by_cases hc:c<128
   ·rw[if_pos hc]at h
    simp only[Option.some.injEq,Prod.mk.injEq]at h;obtain⟨rfl,rfl⟩:=h;refine⟨by omega,by simp only[List.length_cons];omega,by omega,?_⟩;rcases Nat.lt_or_ge k 9 with JR|JR
    ·have:(2:Int)^(7*k)<=2^56:=xZ (by omega)
     omega
    ·obtain rfl:k=9:=by omega
     have:c<=1:=by omega
     have e:c%128=c:=by omega
     rw[e]at UA⊢;have h3:c*2^(7*9)<=1*2^(7*9):=Int.mul_le_mul_of_nonneg_right this (Int.le_of_lt hp);have h4:(2:Int)^(7*9)=9223372036854775808:=by decide
     omega
   ·rw[if_neg hc]at h
    by_cases JR:9<=k
    ·rw[if_pos JR]at h;cases h
    ·rw[if_neg JR]at h
     have hlt:v+c%128*2^(7*k)<2^(7*(k+1)):=by
      have:(2:Int)^(7*(k+1))=128*2^(7*k):=by
       rw[Nat.mul_add,Int.pow_add];simp[Int.mul_comm]
      omega
     obtain⟨q1,q2,q3,q4⟩:=KA r (k+1) _ (fun y hy=>hB y (by simp[hy])) (by omega) (by omega) hlt x n h;exact⟨by omega,by simp only[List.length_cons];omega,q3,q4⟩
theorem kU{B:List Int}(hB:pE B){i:Nat}(hi:i<=B.length){x:Int}{n:Nat}(h:oH B i=some (x,n)):i<n/\n<=B.length/\0<=x/\x<=18446744073709551615:=by
 unfold oH at h;obtain⟨⟨y,m⟩,h1,h2⟩:=Option.map_eq_some_iff.1 h;simp only[Prod.mk.injEq]at h2;obtain⟨rfl,rfl⟩:=h2;obtain⟨q1,q2,q3,q4⟩:=KA _ 0 0 (hB.drop i) (by omega) (by omega) (by simp) _ _ h1;rw[List.length_drop]at q2;exact⟨by omega,by omega,q3,q4⟩
def mW:List Int->Int
 | []=>0
 |c::r=>c+256*mW r
def wM(n:Nat)(B:List Int)(i:Nat):Option (Int×Nat):=if i+n<=B.length then some (mW ((B.drop i).take n),i+n)else none
structure bN where
 num:Int
 kind:Int
 val:Int
 text:ByteArray
structure vF where
 at':Nat
 op:List Int
 out:List bN
def uG(B:List Int)(i:Nat)(num kind:Int):Option (bN×Nat):=
 if kind=0 then(oH B i).map fun p=>(⟨num,kind,p.1,⟨#[]⟩⟩,p.2)
 else if kind=2 then(oH B i).bind fun p=>if(B.length:Int)-p.2<p.1 then none else some (⟨num,kind,0,strOfNums ((B.drop p.2).take p.1.toNat)⟩,p.2+p.1.toNat)
 else if kind=1 then(wM 8 B i).map fun p=>(⟨num,kind,p.1,⟨#[]⟩⟩,p.2)
 else if kind=5 then(wM 4 B i).map fun p=>(⟨num,kind,p.1,⟨#[]⟩⟩,p.2)
 else none
def jf(B:List Int)(s:vF)(num kind:Int):Option vF:=
 (uG B s.at' num kind).bind fun p=>if 0<s.op.length then some ⟨p.2,s.op,s.out⟩else if 256<=s.out.length then none else some ⟨p.2,s.op,s.out++[p.1]⟩
def tN(B:List Int)(s:vF):Option vF:=
 (oH B s.at').bind fun p=>
  if p.1/8<1\/536870912<=p.1/8 then none
  else if p.1%8=3 then(if 8<=s.op.length then none else some ⟨p.2,s.op++[p.1/8],s.out⟩)
  else if p.1%8=4 then(if s.op.getLast?=some (p.1/8)then some ⟨p.2,s.op.dropLast,s.out⟩else none)
  else jf B ⟨p.2,s.op,s.out⟩ (p.1/8) (p.1%8)
def tQ(B:List Int):Nat->vF->Option (List bN)
 |0,s=>if s.op=[]then some s.out else none
 |n+1,s=>if s.at'<B.length then(tN B s).bind (tQ B n)else if s.op=[]then some s.out else none
def uH(B:List Int):Option (List bN):=if 4096<B.length then none else tQ B B.length ⟨0,[],[]⟩
def bA(l:List bN)(num:Int):List bN:=l.filter fun f=>f.num==num
structure PV where
 k:Int
 n:Int
 s:ByteArray
def PV.zero:PV:=⟨0,0,⟨#[]⟩⟩
def KC(k:Int):Int:=Kd.kd k
def Qm(k n:Int):Bool:=decide ((k=1\/k=3)/\4294967296<=n\/k=5/\1<n)
def iQ(num base:Int)(raw:Bool):Int:=if num-base+1<1\/7<num-base+1\/(num-base+1=7/\raw=false)then 0 else num-base+1
def jg(base:Int)(raw:Bool)(v:PV)(f:bN):Option PV:=
 if iQ f.num base raw=0 then some v
 else if f.kind≠KC (iQ f.num base raw)then none
 else if Qm (iQ f.num base raw) f.val=true then none
 else some ⟨iQ f.num base raw,f.val,f.text⟩
def O5(base:Int)(raw:Bool)(l:List bN):Option PV:=l.foldlM (jg base raw) PV.zero
def iy(f:bN):Bool:=
 decide (8<f.num)||(if f.num=1 then f.kind==0&&decide (f.val<=1)else if f.num=3\/f.num=4 then f.kind==0 else f.kind==2)
def Cm(B:List Int):Bool:=match uH B with
 |none=>false
 |some l=>l.all iy
def dw(x:Bool×ByteArray)(f:bN):Option (Bool×ByteArray):=
 if f.num=1 then(if f.kind=0/\f.val<=4294967295 then some x else none)
 else if f.num=2 then(if f.kind=0/\f.val<=1 then some x else none)
 else if f.num=9 then(if f.kind=2 then some (true,f.text)else none)
 else if 3<=f.num/\f.num<=8 then(jg 3 false PV.zero f).map fun _=>(false,x.2)
 else some x
def vG(l:List bN):Bool:=l.all (fun f=> !((f.num==1||f.num==2)&&f.kind !=2))&&decide ((bA l 1).length<=32)&&decide ((bA l 2).length<=32)&&decide ((bA l 1).length=(bA l 2).length)
def zh(g:List Int->Bool)(B:List Int):Bool:=match uH B with
 |none=>false
 |some l=>match l.foldlM dw (false,⟨#[]⟩)with
  |none=>false
  |some x=> !x.1||g (ak x.2)
def qK:Nat->List Int->Bool
 |0,_=>false
 |n+1,B=>match uH B with
  |none=>false
  |some l=>vG l&&(bA l 2).all fun f=>zh (qK n) (ak f.text)
def jh(f:bN):Bool:=
 if f.num=1 then f.kind==0 else if f.num=3 then f.kind==0&&decide (f.val<=4294967295)else if f.num=2\/f.num=4 then f.kind==2 else true
def rD(f:bN):Bool:=match uH (ak f.text)with
 |none=>false
 |some l=>(O5 1 false l).isSome
def abN(mM:Nat)(f:bN):Bool:=match uH (ak f.text)with
 |none=>false
 |some l=>decide ((bA l 1).length=mM)&&(bA l 1).all (fun x=>x.kind==2)&&(bA l 1).all rD
def H9(l:List bN):Int:=((bA l 1).getLast?.map (·.val)).getD 0
def Ak(B:List Int):Bool:=match uH B with
 |none=>false
 |some l=>l.all jh&&decide ((bA l 2).length<=16)&&decide ((bA l 3).length<=16)&&decide ((bA l 4).length<=32)&&decide ((bA l 2).length=(bA l 3).length)&&decide (H9 l=(bA l 2).length)&&
  (bA l 4).all (abN (bA l 2).length)
structure PM where
 name:ByteArray
 has:Bool
 al:Int
 time:Int
 ty:Int
 hist:Bool
 trans:Bool
 null:Bool
 v:PV
structure MT where
 m:PM
 mta':ByteArray
 told:Bool
 props:ByteArray
 big:ByteArray
def MT.zero:MT:=⟨⟨⟨#[]⟩,false,0,0,0,false,false,false,PV.zero⟩,⟨#[]⟩,false,⟨#[]⟩,⟨#[]⟩⟩
def bD(x:MT)(f:bN):Option MT:=
 if f.num=1 then(if f.kind=2 then some {x with m:={x.m with name:=f.text}}else none)
 else if f.num=2 then(if f.kind=0 then some {x with m:={x.m with has:=true,al:=f.val}}else none)
 else if f.num=3 then(if f.kind=0 then some {x with m:={x.m with time:=f.val}}else none)
 else if f.num=4 then(if f.kind=0/\f.val<=4294967295 then some {x with m:={x.m with ty:=f.val}}else none)
 else if f.num=5 then(if f.kind=0/\f.val<=1 then some {x with m:={x.m with hist:=f.val==1}}else none)
 else if f.num=6 then(if f.kind=0/\f.val<=1 then some {x with m:={x.m with trans:=f.val==1}}else none)
 else if f.num=7 then(if f.kind=0/\f.val<=1 then some {x with m:={x.m with null:=f.val==1}}else none)
 else if f.num=8 then(if f.kind=2 then some {x with told:=true,mta':=f.text}else none)
 else if f.num=9 then(if f.kind=2 then some {x with props:=f.text}else none)
 else if f.num=17 then(if f.kind=2 then some {x with m:={x.m with v:=⟨8,0,⟨#[]⟩⟩},big:=f.text}else none)
 else if f.num=18 then(if f.kind=2 then some {x with m:={x.m with v:=⟨9,0,⟨#[]⟩⟩},big:=f.text}else none)
 else(jg 10 true PV.zero f).map fun v=>if v.k=0 then x else{x with m:={x.m with v:=v}}
def qF(f:bN):Bool:=if f.num=1 then f.kind==2 else if f.num=2 then f.kind==0&&decide (f.val<=4294967295)else true
def xQ(B:List Int):Bool:=match uH B with
 |none=>false
 |some l=>l.all qF&&(O5 3 false (l.filter fun f=> !(f.num==1||f.num==2))).isSome
def kD(f:bN):Bool:=if 1<=f.num/\f.num<=4 then f.kind==2 else if f.num=5 then f.kind==0&&decide (f.val<=1)else true
def Cn(g:List Int->Bool)(B:List Int):Bool:=match uH B with
 |none=>false
 |some l=>l.all kD&&decide ((bA l 2).length<=64)&&decide ((bA l 3).length<=32)&&(bA l 2).all (fun f=>g (ak f.text))&&(bA l 3).all fun f=>xQ (ak f.text)
def abO(g:List Int->Bool)(x:MT):Bool:=
 (!x.told||Cm (ak x.mta'))&&qK 8 (ak x.props)&&(if x.m.v.k=8 then Ak (ak x.big)else if x.m.v.k=9 then Cn g (ak x.big)else true)
def O6:Nat->List Int->Option PM
 |0,_=>none
 |n+1,B=>match uH B with
  |none=>none
  |some l=>match l.foldlM bD MT.zero with
   |none=>none
   |some x=>if abO (fun C=>(O6 n C).isSome) x=true then some x.m else none
structure wN where
 t:Int
 h:Bool
 s:Int
 u:ByteArray
 b:ByteArray
 M:List PM
def ji(f:bN):Bool:=if f.num=1\/f.num=3 then f.kind==0 else if f.num=2\/f.num=4\/f.num=5 then f.kind==2 else true
def gD(p:wN)(f:bN):wN:=
 if f.num=1 then{p with t:=f.val}else if f.num=3 then{p with h:=true,s:=f.val}else if f.num=4 then{p with u:=f.text}else if f.num=5 then{p with b:=f.text}else p
def tT:List bN->Option (List PM)
 | []=>some []
 |f::r=>(O6 8 (ak f.text)).bind fun m=>(tT r).map fun l=>m::l
def Qn(B:List Int):Option wN:=match uH B with
 |none=>none
 |some l=>if l.all ji=false then none else if 64<(bA l 2).length then none else(tT (bA l 2)).map fun M=>{l.foldl gD ⟨0,false,0,⟨#[]⟩,⟨#[]⟩,[]⟩with M:=M}
end Go.Proofs.YtedcakchekaemaaGreatDoor
namespace Go.Proofs.YtedcakchekaemaaGreatDoor
open Go.RowKit
def qX(k:IntKind)(w:World)(a:Option Addr)(len:Nat)(zs:Nat->Int):Prop:=
 len<=9223372036854775807/\(0<len-> ∃b o,a=some ⟨b,o,none⟩/\b<w.heap.size/\ ∀i,i<len->w.cell? ⟨b,o+i,none⟩=some (.int k (zs i))/\(Lit.int k (zs i)).wf=true)
theorem yP(k:IntKind)(w:World)(a:Option Addr)(zs:Nat->Int):qX k w a 0 zs:=⟨by omega,fun h=>by omega⟩
theorem AP{k:IntKind}{w:World}{a:Addr}{len cap:Nat}{zs:List Int}(hl:len<=cap)(hm:cap<=maxLen)(hz:zs.length=cap)(hc: ∀i,i<zs.length->w.cell? (a.add i)=some (.int k (zs.getD i 0)))
  (hw: ∀n∈zs,(Lit.int k n).wf=true):qX k w (some a) len (fun i=>zs.getD i 0):=by
 refine⟨by unfold maxLen at hm;omega,fun h=>?_⟩;obtain⟨b,o,sp⟩:=a;have h0:=hc 0 (by omega);have hs:sp=none:=by simpa[Addr.add]using World.cell?_spot h0
 subst hs;refine⟨b,o,rfl,by simpa[Addr.add]using block_lt_of_cell h0,fun i hi=>⟨?_,?_⟩⟩
 ·have:=hc i (by omega)
  unfold Addr.add at this;by_cases h0:i=0
  ·subst h0;simpa using this
  ·simpa[h0]using this
 ·have hi':i<zs.length:=by omega
  refine hw _ ?_;simp[List.getD,List.getElem?_eq_getElem hi']
inductive CK where
 |int (k:IntKind)
 |bool
 |str
 |sl
def CK.fits:CK->Value->Prop
 | .int k,v=> ∃n,v=.int k n/\(Lit.int k n).wf=true
 | .bool,v=> ∃b,v=.bool b
 | .str,v=> ∃s:ByteArray,v=.string s/\s.size<=maxLen
 | .sl,v=> ∃a n c,v=.slice a n c
def ig(P:Program)(g:TypeId->Option (List CK)):Nat->List Field->Option (List CK)
 |_,[]=>some []
 |off,f::r=>match g f.type with
  |some l=>if f.offset=off/\P.cellsOf f.type=l.length then(ig P g (off+l.length) r).map (l++ ·)else none
  |none=>none
def flat(P:Program):Nat->TypeId->Option (List CK)
 |0,_=>none
 |n+1,t=>match P.underlying t with
  |some .bool=>some [.bool]
  |some (.int k)=>some [.int k]
  |some .string=>some [.str]
  |some (.slice _)=>some [.sl]
  |some (.struct fs)=>match ig P (flat P n) 0 fs.toList with
   |some l=>if P.cellsOf t=l.length then some l else none
   |none=>none
  |_=>none
def Vl(ks:List CK)(cs:List Value):Prop:=cs.length=ks.length/\ ∀(i:Nat) (k:CK) (v:Value),ks[i]?=some k->cs[i]?=some v->k.fits v
section
variable {H : Type} {enc : TypeId × Value → H} {P : Program} {w : World} {base : Nat} {spare : Nat → Bool} {held : Bool}
theorem qE{g:TypeId->Option (List CK)}{n:Nat}{cs:List Value}
  (hg: ∀t ks cs' x,g t=some ks->DataW.trod enc P w base spare held n t cs'=some x->Vl ks cs'):
  ∀(fs:List Field) (off:Nat) (ks:List CK),ig P g off fs=some ks->off+ks.length<=cs.length->
   (∀f∈fs,∃x,DataW.trod enc P w base spare held n f.type ((cs.drop f.offset).take (P.cellsOf f.type))=some x)->
   ∀i k v,ks[i]?=some k->cs[off+i]?=some v->k.fits v
 | [],off,ks,h,_,_,i,k,v,hk,_=>by simp[ig]at h;subst h;simp at hk
 |f::r,off,ks,h,hlen,hx,i,k,v,hk,hv=>by
  unfold ig at h;split at h
  ·rename_i l hl
   split at h
   ·rename_i hc
    obtain⟨rest,hrest,rfl⟩:=Option.map_eq_some_iff.1 h;obtain⟨x,hx0⟩:=hx f (by simp);have hf:=hg _ _ _ _ hl hx0;simp only[List.length_append]at hlen;by_cases hi:i<l.length
    ·rw[List.getElem?_append_left hi]at hk
     refine hf.2 i k v hk ?_;rw[hc.1,hc.2,List.getElem?_take_of_lt hi,List.getElem?_drop];exact hv
    ·rw[List.getElem?_append_right (by omega)]at hk
     refine qE hg r (off+l.length) rest hrest (by omega) (fun f' hf'=>hx f' (by simp[hf'])) (i-l.length) k v hk ?_;rw[show off+l.length+(i-l.length)=off+i by omega];exact hv
   ·cases h
  ·cases h
theorem wG: ∀(n:Nat) {t:TypeId} {ks:List CK} {fuel:Nat} {cs:List Value} {x:DataW H×List MemPlace},flat P n t=some ks->DataW.trod enc P w base spare held fuel t cs=some x->Vl ks cs
 |0,t,ks,fuel,cs,x,h,_=>by simp[flat]at h
 |n+1,t,ks,fuel,cs,x,h,hx=>by
  unfold flat at h;split at h
  ·rename_i hu
   cases h;obtain⟨b,rfl,_⟩:=DataW.trod_bool hu hx;exact⟨rfl,fun i k v hk hv=>by
    match i with
    |0=>simp at hk hv;subst hk hv;exact⟨b,rfl⟩
    |i+1=>simp at hk⟩
  ·rename_i k0 hu
   cases h;obtain⟨m,rfl,_,hw⟩:=DataW.trod_int hu hx;exact⟨rfl,fun i k v hk hv=>by
    match i with
    |0=>simp at hk hv;subst hk hv;exact⟨m,rfl,hw⟩
    |i+1=>simp at hk⟩
  ·rename_i hu
   cases h;obtain⟨s,rfl,_,hs⟩:=DataW.trod_string hu hx;exact⟨rfl,fun i k v hk hv=>by
    match i with
    |0=>simp at hk hv;subst hk hv;exact⟨s,rfl,hs⟩
    |i+1=>simp at hk⟩
  ·rename_i e0 hu
   cases h;obtain⟨a,n,c,rfl⟩: ∃a n c,cs=[.slice a n c]:=by
    rcases Deep.open_slice hu hx with⟨h1,_⟩|⟨a,len,cap,_,_,_,_,h1,_⟩
    ·exact⟨_,_,_,h1⟩
    ·exact⟨_,_,_,h1⟩
   exact⟨rfl,fun i k v hk hv=>by
    match i with
    |0=>simp at hk hv;subst hk hv;exact⟨a,n,c,rfl⟩
    |i+1=>simp at hk⟩
  ·rename_i fs hu
   split at h
   ·rename_i l hl
    split at h
    ·rename_i hc
     cases h;obtain⟨xs,m,_,_,hlen,hxs,hf⟩:=DataW.trod_struct hu hx;refine⟨by rw[hlen,hc],fun i k v hk hv=>?_⟩;refine qE (n:=m) (cs:=cs) (g:=flat P n) (fun t ks cs' x h1 h2=>wG n h1 h2) fs.toList 0 ks hl (by rw[hlen,hc];omega) ?_ i k v hk (by rw[Nat.zero_add];exact hv);intro f hfm;obtain⟨j,hj⟩:=List.getElem?_of_mem hfm;have hj':fs[j]?=some f:=by simpa using hj
     have hjl:j<xs.length:=by
      rw[hxs];exact(Array.getElem?_eq_some_iff.1 hj').1
     exact⟨xs[j],by rw[hf j f hj',List.getElem?_eq_getElem hjl]⟩
    ·cases h
   ·cases h
  ·cases h
theorem Ls{a:Addr}{n:Nat}{cs:List Value}(h:w.cells? base a n=some cs){b o:Nat}(ha:a=⟨b,o,none⟩){j:Nat}{v:Value}(hv:cs[j]?=some v):w.cell? ⟨b,o+j,none⟩=some v:=by
 obtain⟨_,hl,hc⟩:=World.cells?_some h;have hj:j<n:=by rw[<-hl];exact(List.getElem?_eq_some_iff.1 hv).1
 have:=hc j hj;rw[hv,ha]at this;unfold Addr.add at this;by_cases h0:j=0
 ·subst h0;simpa using this
 ·simpa[h0]using this
theorem GN{a:Addr}{n:Nat}{cs:List Value}(h:w.cells? base a n=some cs)(hn:0<n):a.spot=none/\a.block<w.heap.size:=by
 obtain⟨_,hl,hc⟩:=World.cells?_some h;have:=hc 0 hn;obtain⟨v,hv⟩: ∃v,cs[0]?=some v:=⟨cs[0],List.getElem?_eq_getElem (by omega)⟩;rw[hv]at this;have h1:w.cell? a=some v:=by simpa[Addr.add]using this
 exact⟨World.cell?_spot h1,block_lt_of_cell h1⟩
end
end Go.Proofs.YtedcakchekaemaaGreatDoor
namespace Go.Proofs.YtedcakchekaemaaGreatDoor
open Go.RowKit
section
variable {α : Type} {enc : α → List Value} {k : Nat} {P : Program}
def aG(enc:α->List Value)(w:World)(s:Value)(l:List α):Prop:=
 (s=.slice none 0 0/\l=[])\/ ∃b o c,s=.slice (some ⟨b,o,none⟩) l.length c/\ ∀j u,(aI enc l)[j]?=some u->w.cell? ⟨b,o+j,none⟩=some u
def Sl(T:TypeId)(enc:α->List Value)(k base:Nat)(w:World)(v:Value)(l:List α):Prop:=w.ownsRow base T k v l.length (aI enc l)
structure jG (P:Program) (t T:TypeId) (enc:α->List Value) (k bytes:Nat):Prop where
 ut:P.underlying t=some (.slice T)
 info: ∃i z,P.info? T=some i/\i.zero=some z/\i.size=k/\i.bytes=bytes/\z.cells.size=k
 pos:0<k
 len: ∀x,(enc x).length=k
 one: ∀x,∀u∈enc x,u.oneCell'=true
theorem su(h: ∀x,∀u∈enc x,u.oneCell'=true)(l:List α): ∀u∈aI enc l,u.oneCell'=true:=by
 intro u hu;obtain⟨x,_,hx⟩:=List.mem_flatMap.1 hu;exact h x u hx
theorem aG.nil(w:World):aG enc w (.slice none 0 0) []:=.inl ⟨rfl,rfl⟩
theorem aG.own{S:List Nat}{w w':World}{s:Value}{l:List α}(h:aG enc w s l)(ho:ai S w w')(hn: ∀b,s.ownBlock=some b->b∉S):aG enc w' s l:=by
 rcases h with h|⟨b,o,c,rfl,h⟩
 ·exact .inl h
 ·exact .inr ⟨b,o,c,rfl,fun j u hu=>(ho.cell (p:=⟨b,o+j,none⟩) (block_lt_of_cell (h j u hu)) (hn b rfl)).trans (h j u hu)⟩
theorem aG.nil'{w w':World}{s:Value}{l:List α}(h:aG enc w s l)(ho:ai [] w w'):aG enc w' s l:=h.own ho (by simp)
theorem aG.form{w:World}{s:Value}{l:List α}(h:aG enc w s l): ∃a c,s=.slice a l.length c:=by
 rcases h with⟨rfl,rfl⟩|⟨b,o,c,rfl,_⟩
 ·exact⟨_,_,rfl⟩
 ·exact⟨_,_,rfl⟩
theorem aG.at_{w:World}{a:Option Addr}{n c:Nat}{l:List α}(h:aG enc w (.slice a n c) l)(hk: ∀x,(enc x).length=k)(hl:0<l.length):
  ∃b o,a=some ⟨b,o,none⟩/\ ∀i x j u,l[i]?=some x->(enc x)[j]?=some u->w.cell? ⟨b,o+(i*k+j),none⟩=some u:=by
 rcases h with⟨_,rfl⟩|⟨b,o,c,he,h⟩
 ·simp at hl
 ·cases he
  exact⟨b,o,rfl,fun i x j u hx hu=>h _ _ ((fM hk l i j x hx (by rw[<-hk x];exact(List.getElem?_eq_some_iff.1 hu).1)).trans hu)⟩
theorem aG.new{T:TypeId}(w:World)(x:α)(c:Nat):aG enc (w.alloc (.cells (enc x).toArray T)) (.slice (some ⟨w.heap.size,0,none⟩) 1 c) [x]:=by
 refine .inr ⟨w.heap.size,0,c,rfl,fun j u hu=>?_⟩;rw[cell_of_row _ _ _ _ _ _ (heap_alloc_new w (.cells (enc x).toArray T))];simpa[aI]using hu
theorem Sl.nil(T:TypeId)(base:Nat)(w:World):Sl T enc k base w (.slice none 0 0) []:=⟨by simp[aI],.inl ⟨rfl,rfl⟩⟩
theorem Sl.form{T:TypeId}{base:Nat}{w:World}{v:Value}{l:List α}(h:Sl T enc k base w v l):(v=.slice none 0 0/\l=[])\/ ∃g cap,v=.slice (some ⟨g,0,none⟩) l.length cap/\base<=g/\si T enc k w g cap l:=by
 rcases h.2 with⟨h0,h1⟩|⟨g,cap,cur,he,hb,hg,h1,h2,h3,h4⟩
 ·exact .inl ⟨h0,List.eq_nil_of_length_eq_zero h1⟩
 ·exact .inr ⟨g,cap,he,hb,cur,hg,h1,h2,h3,h4⟩
theorem Sl.sl{T:TypeId}{base:Nat}{w:World}{v:Value}{l:List α}(h:Sl T enc k base w v l): ∃a cap,v=.slice a l.length cap:=by
 rcases h.form with⟨rfl,rfl⟩|⟨g,cap,rfl,_⟩
 ·exact⟨_,_,rfl⟩
 ·exact⟨_,_,rfl⟩
theorem Sl.block{T:TypeId}{base:Nat}{w:World}{v:Value}{l:List α}(h:Sl T enc k base w v l){g:Nat}(hg:v.ownBlock=some g):base<=g/\g<w.heap.size:=by
 rcases h.form with⟨rfl,_⟩|⟨g',cap,rfl,h1,h2⟩
 ·simp[Value.ownBlock]at hg
 ·simp[Value.ownBlock]at hg
  subst hg;exact⟨h1,h2.lt⟩
theorem Sl.own{S:List Nat}{T:TypeId}{base:Nat}{w w':World}{v:Value}{l:List α}(h:Sl T enc k base w v l)(ho:ai S w w')(hS: ∀b,v.ownBlock=some b->b∉S):Sl T enc k base w' v l:=by
 obtain⟨h1,h2⟩:=h;refine⟨h1,?_⟩;rcases h2 with h2|⟨g,cap,cur,rfl,hb,hg,h3⟩
 ·exact .inl h2
 ·exact .inr ⟨g,cap,cur,rfl,hb,ho.heap hg (hS g rfl),h3⟩
theorem Sl.nil'{T:TypeId}{base:Nat}{w w':World}{v:Value}{l:List α}(h:Sl T enc k base w v l)(ho:ai [] w w'):Sl T enc k base w' v l:=h.own ho (by simp)
theorem Sl.mono{T:TypeId}{base base':Nat}{w:World}{v:Value}{l:List α}(h:Sl T enc k base w v l)(hb:base'<=base):Sl T enc k base' w v l:=by
 obtain⟨h1,h2⟩:=h;refine⟨h1,?_⟩;rcases h2 with h2|⟨g,cap,cur,he,hg,h3⟩
 ·exact .inl h2
 ·exact .inr ⟨g,cap,cur,he,Nat.le_trans hb hg,h3⟩
theorem Sl.empty(T:TypeId)(w:World):Sl T enc k w.heap.size (w.alloc (.cells #[] T)) (.slice (some ⟨w.heap.size,0,none⟩) 0 0) ([]:List α):=
 ⟨by simp[aI],.inr ⟨w.heap.size,0,#[],rfl,Nat.le_refl _,heap_alloc_new _ _,Nat.le_refl _,by unfold maxLen;omega,by simp,by simp[aI]⟩⟩
theorem Sl.made{T:TypeId}{w:World}{cap:Nat}{cur:Array Value}(hc:cap<=maxLen)(hs:cur.size=cap*k):Sl T enc k w.heap.size (w.alloc (.cells cur T)) (.slice (some ⟨w.heap.size,0,none⟩) 0 cap) ([]:List α):=
 ⟨by simp[aI],.inr ⟨w.heap.size,cap,cur,rfl,Nat.le_refl _,heap_alloc_new _ _,Nat.zero_le _,hc,hs,by simp[aI]⟩⟩
theorem Sl.reads{T:TypeId}{base:Nat}{w:World}{v:Value}{l:List α}(h:Sl T enc k base w v l)(hk: ∀x,(enc x).length=k):aG enc w v l:=by
 rcases h.form with⟨rfl,rfl⟩|⟨g,cap,rfl,_,hR⟩
 ·exact .inl ⟨rfl,rfl⟩
 ·refine .inr ⟨g,0,cap,rfl,fun j u hu=>?_⟩
  rw[Nat.zero_add];refine hR.flat hu ?_;rw[<-bq hk];exact(List.getElem?_eq_some_iff.1 hu).1
theorem Sl.of_row{T:TypeId}{base:Nat}{w:World}{g cap:Nat}{l:List α}(h:si T enc k w g cap l)(hk: ∀x,(enc x).length=k)(hb:base<=g):Sl T enc k base w (.slice (some ⟨g,0,none⟩) l.length cap) l:=by
 obtain⟨cur,hc,h1,h2,h3,h4⟩:=h;exact⟨bq hk l,.inr ⟨g,cap,cur,rfl,hb,hc,h1,h2,h3,h4⟩⟩
theorem Sl.take{T t:TypeId}{base bytes:Nat}{w:World}{v:Value}{l:List α}(h:Sl T enc k base w v l)(E:jG P t T enc k bytes){i:Nat}(hi:i<=l.length):
  ∃v1,(∀W,(Instr.sliceAt t v none (some (.int .i64 i)) none).run P W=.ok v1 W)/\aG enc w v1 (l.take i)/\(∀b,v1.ownBlock=some b->v.ownBlock=some b):=by
 obtain⟨inf,z,Dk,_,hsz,_,_⟩:=E.info;have hs: ∀W,(sizeOf T).run P W=.ok k W:=fun W=>by simp[sizeOf,typeInfo,Dk,hsz]
 have hi0:(0:Int)<=i:=by omega
 rcases h.form with⟨rfl,rfl⟩|⟨g,cap,rfl,_,hR⟩
 ·obtain rfl:i=0:=by simpa using hi
  refine⟨.slice none 0 0,fun W=>?_,.inl ⟨rfl,by simp⟩,fun b hb=>hb⟩;simp[Instr.sliceAt,Instr.slice,run_underlying E.ut,Instr.sliceBounds,run_sliceBound,hs,Result.andThen]
 ·have hcap:l.length<=cap:=by obtain⟨_,_,h,_⟩:=hR;exact h
  refine⟨.slice (some ⟨g,0,none⟩) i cap,fun W=>?_,.inr ⟨g,0,cap,by rw[List.length_take_of_le hi],fun j u hu=>?_⟩,fun b hb=>by simpa[Value.ownBlock]using hb⟩
  ·have h2:(i:Int)<=cap:=by omega
   simp[Instr.sliceAt,Instr.slice,run_underlying E.ut,Instr.sliceBounds,run_sliceBound,hs,Result.andThen,hi0,h2,Addr.add]
  ·rw[Nat.zero_add]
   have hj:=(List.getElem?_eq_some_iff.1 hu).1;have e:(aI enc l)[j]?=some u:=by
    conv=>lhs;rw[<-List.take_append_drop i l,bV]
    rw[List.getElem?_append_left hj];exact hu
   refine hR.flat e ?_;rw[<-bq E.len];exact(List.getElem?_eq_some_iff.1 e).1
theorem Sl.drop{T t:TypeId}{base bytes:Nat}{w:World}{v:Value}{l:List α}(h:Sl T enc k base w v l)(E:jG P t T enc k bytes){i:Nat}(hi:i<=l.length):
  ∃v1,(∀W,(Instr.sliceAt t v (some (.int .i64 i)) none none).run P W=.ok v1 W)/\aG enc w v1 (l.drop i)/\(∀b,v1.ownBlock=some b->v.ownBlock=some b):=by
 obtain⟨inf,z,Dk,_,hsz,_,_⟩:=E.info;have hs: ∀W,(sizeOf T).run P W=.ok k W:=fun W=>by simp[sizeOf,typeInfo,Dk,hsz]
 have hi0:(0:Int)<=i:=by omega
 rcases h.form with⟨rfl,rfl⟩|⟨g,cap,rfl,_,hR⟩
 ·obtain rfl:i=0:=by simpa using hi
  refine⟨.slice none 0 0,fun W=>?_,.inl ⟨rfl,by simp⟩,fun b hb=>hb⟩;simp[Instr.sliceAt,Instr.slice,run_underlying E.ut,Instr.sliceBounds,run_sliceBound,hs,Result.andThen]
 ·have h2:(i:Int)<=l.length:=by omega
  have hl:(aI enc (l.take i)).length=i*k:=by rw[bq E.len,List.length_take_of_le hi]
  by_cases hc:cap=i
  ·refine⟨.slice (some ⟨g,0,none⟩) (l.length-i) (cap-i),fun W=>?_,.inr ⟨g,0,cap-i,by rw[List.length_drop],fun j u hu=>?_⟩,fun b hb=>by simpa[Value.ownBlock]using hb⟩
   ·simp[Instr.sliceAt,Instr.slice,run_underlying E.ut,Instr.sliceBounds,run_sliceBound,hs,Result.andThen,hi0,h2,hc]
   ·exfalso
    have hcap:l.length<=cap:=by obtain⟨_,_,h,_⟩:=hR;exact h
    have hj:=(List.getElem?_eq_some_iff.1 hu).1;rw[bq E.len,List.length_drop,show l.length-i=0 by omega]at hj;omega
  ·refine⟨.slice (some ⟨g,i*k,none⟩) (l.length-i) (cap-i),fun W=>?_,.inr ⟨g,i*k,cap-i,by rw[List.length_drop],fun j u hu=>?_⟩,fun b hb=>by simpa[Value.ownBlock]using hb⟩
   ·simp[Instr.sliceAt,Instr.slice,run_underlying E.ut,Instr.sliceBounds,run_sliceBound,hs,Result.andThen,hi0,h2,hc,add_zero]
   ·have e:(aI enc l)[i*k+j]?=some u:=by
     conv=>lhs;rw[<-List.take_append_drop i l,bV]
     rw[List.getElem?_append_right (by omega),hl,Nat.add_sub_cancel_left];exact hu
    refine hR.flat e ?_;rw[<-bq E.len];exact(List.getElem?_eq_some_iff.1 e).1
theorem qU{t T:TypeId}{bytes:Nat}(E:jG P t T enc k bytes)(ty:TypeId){W w:World}(hW:ai [] W w){v s:Value}{l l2:List α}(hv:Sl T enc k W.heap.size w v l)(hs:aG enc w s l2)
  (hlen:(l.length+l2.length)*bytes<=140737488355328)(hmax:l.length+l2.length<=maxLen):
  ∃v' w',(Builtin.append_ #[t,t] ty #[v,s]).run P w=.ok v' w'/\Sl T enc k W.heap.size w' v' (l++l2)/\ai [] W w'/\(v'=.slice none 0 0↔v=.slice none 0 0/\l2=[])/\(∀g,v'.ownBlock=some g->v.ownBlock=some g\/w.heap.size<=g):=by
 obtain⟨i,z,hi,hz,hsz,hby,hzs⟩:=E.info;rcases hs with⟨rfl,rfl⟩|⟨b,o,c,rfl,hs⟩
 ·obtain⟨a,cap,rfl⟩:=hv.sl
  have hcap:l.length<=cap:=by
   rcases hv.form with⟨h,rfl⟩|⟨g,cap',h,_,_,_,h1,_⟩
   ·simp
   ·cases h;exact h1
  refine⟨_,w,run_append_nothing w _ t ty _ i E.ut hi a l.length cap hcap _ (Src.ofNil w E.ut 0),by simpa using hv,hW,by simp,fun g hg=>.inl hg⟩
 ·have hnews: ∀j u,(aI enc l2)[j]?=some u->w.cell? ((⟨b,o,none⟩:Addr).add j)=some u:=fun j u hu=>by
   have e:(⟨b,o,none⟩:Addr).add j=⟨b,o+j,none⟩:=by unfold Addr.add;split<;>simp_all
   rw[e];exact hs j u hu
  obtain⟨v',w',hr,h2,h3,h4,h5⟩:=run_append_own_at (P:=P) w W.heap.size t ty T i z k bytes E.ut hi hz hsz hby hzs E.pos v l.length (aI enc l) hv ⟨b,o,none⟩ l2.length c (aI enc l2) (bq E.len l2) hnews (su E.one l2) hmax hlen hW.size;refine⟨v',w',hr,?_,hW.trans' (S':=v.ownBlock.toList) ⟨h3.os,h3.tape,h3.output,h3.size,fun q hq hn=>h3.block q hq (by cases hb:v.ownBlock with|none=>simp|some g=>rw[hb]at hn;simpa using hn)⟩ ?_,?_,?_⟩
  ·unfold Sl
   rw[List.length_append,bV];exact h2
  ·intro x hx
   right
   cases hb:v.ownBlock with
   |none=>rw[hb]at hx;simp at hx
   |some g=>rw[hb]at hx;simp at hx;subst hx;exact(hv.block hb).1
  ·rw[h4]
   constructor
   ·rintro⟨a,b⟩;exact⟨a,List.eq_nil_of_length_eq_zero b⟩
   ·rintro⟨a,rfl⟩;exact⟨a,rfl⟩
  ·intro g hg
   rcases h5 with h5|h5
   ·exact .inl (h5▸hg)
   ·rw[h5]at hg;cases hg;exact .inr (Nat.le_refl _)
theorem jr{ops:Array Oper}{rest:List Oper}{o:Oper}{a:Act}{Q:Exit->Act->World->Prop}(hgd:o.guard=none)(s x:Operand){t T:TypeId}(ho:o.op=.call {callee:=.builtin .append,args:=#[s,x],argTypes:=#[t,t]})
  {bytes:Nat}(E:jG P t T enc k bytes){W w:World}(hW:ai [] W w){v sv:Value}{l l2:List α}(hs:a.eval s=v)(hv:Sl T enc k W.heap.size w v l)(hx:a.eval x=sv)(hsv:aG enc w sv l2)
  (hlen:(l.length+l2.length)*bytes<=140737488355328)(hmax:l.length+l2.length<=maxLen)
  (h: ∀v' w',Sl T enc k W.heap.size w' v' (l++l2)->ai [] W w'->(v'=.slice none 0 0↔v=.slice none 0 0/\l2=[])->(∀g,v'.ownBlock=some g->v.ownBlock=some g\/w.heap.size<=g)->wpList P ops Q rest (a.put o.dst v') w'):
  wpList P ops Q (o::rest) a w:=by
 refine wpList_plain hgd fun K hK=>?_
 obtain⟨v',w',hr,h2,h3,h4,h5⟩:=qU (P:=P) E o.type hW hv hsv hlen hmax;unfold Oper.wp execOp;simp only[ho,resolve,invoke,builtin,Sem.run_bind,Sem.run_pure,Result.andThen_ok,List.map_toArray,List.map_cons,List.map_nil,hs,hx,hr];exact hK _ _ (h v' w' h2 h3 h4 h5)
theorem kK{t T:TypeId}{bytes:Nat}(E:jG P t T enc k bytes)(ty:TypeId){W w:World}(hW:ai [] W w){v s:Value}{l l2:List α}(hv:Sl T enc k W.heap.size w v l)(hs:aG enc w s l2)
  (hlen:(l.length+l2.length)*bytes<=140737488355328)(hmax:l.length+l2.length<=maxLen):
  ∃v' w',(Builtin.append_ #[t,t] ty #[v,s]).run P w=.ok v' w'/\Sl T enc k W.heap.size w' v' (l++l2)/\ai [] W w'/\(v'=.slice none 0 0↔v=.slice none 0 0/\l2=[])/\(∀g,v'.ownBlock=some g->v.ownBlock=some g\/w.heap.size<=g)/\ai v.ownBlock.toList w w':=by
 obtain⟨i,z,hi,hz,hsz,hby,hzs⟩:=E.info;rcases hs with⟨rfl,rfl⟩|⟨b,o,c,rfl,hs⟩
 ·obtain⟨a,cap,rfl⟩:=hv.sl
  have hcap:l.length<=cap:=by
   rcases hv.form with⟨h,rfl⟩|⟨g,cap',h,_,_,_,h1,_⟩
   ·simp
   ·cases h;exact h1
  refine⟨_,w,run_append_nothing w _ t ty _ i E.ut hi a l.length cap hcap _ (Src.ofNil w E.ut 0),by simpa using hv,hW,by simp,fun g hg=>.inl hg,ai.refl _ _⟩
 ·have hnews: ∀j u,(aI enc l2)[j]?=some u->w.cell? ((⟨b,o,none⟩:Addr).add j)=some u:=fun j u hu=>by
   have e:(⟨b,o,none⟩:Addr).add j=⟨b,o+j,none⟩:=by unfold Addr.add;split<;>simp_all
   rw[e];exact hs j u hu
  obtain⟨v',w',hr,h2,h3,h4,h5⟩:=run_append_own_at (P:=P) w W.heap.size t ty T i z k bytes E.ut hi hz hsz hby hzs E.pos v l.length (aI enc l) hv ⟨b,o,none⟩ l2.length c (aI enc l2) (bq E.len l2) hnews (su E.one l2) hmax hlen hW.size;have hOv:ai v.ownBlock.toList w w':=⟨h3.os,h3.tape,h3.output,h3.size,fun q hq hn=>h3.block q hq (by cases hb:v.ownBlock with|none=>simp|some g=>rw[hb]at hn;simpa using hn)⟩;refine⟨v',w',hr,?_,hW.trans' (S':=v.ownBlock.toList) hOv ?_,?_,?_,hOv⟩
  ·unfold Sl
   rw[List.length_append,bV];exact h2
  ·intro x hx
   right
   cases hb:v.ownBlock with
   |none=>rw[hb]at hx;simp at hx
   |some g=>rw[hb]at hx;simp at hx;subst hx;exact(hv.block hb).1
  ·rw[h4]
   constructor
   ·rintro⟨a,b⟩;exact⟨a,List.eq_nil_of_length_eq_zero b⟩
   ·rintro⟨a,rfl⟩;exact⟨a,rfl⟩
  ·intro g hg
   rcases h5 with h5|h5
   ·exact .inl (h5▸hg)
   ·rw[h5]at hg;cases hg;exact .inr (Nat.le_refl _)
theorem aT{ops:Array Oper}{rest:List Oper}{o:Oper}{a:Act}{Q:Exit->Act->World->Prop}(hgd:o.guard=none)(s x:Operand){t T:TypeId}(ho:o.op=.call {callee:=.builtin .append,args:=#[s,x],argTypes:=#[t,t]})
  {bytes:Nat}(E:jG P t T enc k bytes){W w:World}(hW:ai [] W w){v sv:Value}{l l2:List α}(hs:a.eval s=v)(hv:Sl T enc k W.heap.size w v l)(hx:a.eval x=sv)(hsv:aG enc w sv l2)
  (hlen:(l.length+l2.length)*bytes<=140737488355328)(hmax:l.length+l2.length<=maxLen)
  (h: ∀v' w',Sl T enc k W.heap.size w' v' (l++l2)->ai [] W w'->(v'=.slice none 0 0↔v=.slice none 0 0/\l2=[])->(∀g,v'.ownBlock=some g->v.ownBlock=some g\/w.heap.size<=g)->ai v.ownBlock.toList w w'->wpList P ops Q rest (a.put o.dst v') w'):
  wpList P ops Q (o::rest) a w:=by
 refine wpList_plain hgd fun K hK=>?_
 obtain⟨v',w',hr,h2,h3,h4,h5,h6⟩:=kK (P:=P) E o.type hW hv hsv hlen hmax;unfold Oper.wp execOp;simp only[ho,resolve,invoke,builtin,Sem.run_bind,Sem.run_pure,Result.andThen_ok,List.map_toArray,List.map_cons,List.map_nil,hs,hx,hr];exact hK _ _ (h v' w' h2 h3 h4 h5 h6)
theorem qD{ops:Array Oper}{o:Oper}{a:Act}{K:Act->World->Prop}{Q:Exit->Act->World->Prop}{E:Prop}(hgd:o.guard=none)(s x:Operand){t T:TypeId}(ho:o.op=.call {callee:=.builtin .append,args:=#[s,x],argTypes:=#[t,t]})
  {bytes:Nat}(E1:jG P t T enc k bytes){W w:World}(hW:ai [] W w){v sv:Value}{l l2:List α}(hs:a.eval s=v)(hv:Sl T enc k W.heap.size w v l)(hx:a.eval x=sv)(hsv:aG enc w sv l2)
  (hlen:(l.length+l2.length)*bytes<=140737488355328)(hmax:l.length+l2.length<=maxLen)
  (h: ∀v' w',Sl T enc k W.heap.size w' v' (l++l2)->ai [] W w'->(v'=.slice none 0 0↔v=.slice none 0 0/\l2=[])->(∀g,v'.ownBlock=some g->v.ownBlock=some g\/w.heap.size<=g)->K (a.put o.dst v') w'):
  if Region.wanted o (yielded ops a.tmps)=true then Oper.wp P o a w K Q else E:=by
 have hw:Region.wanted o (yielded ops a.tmps)=true:=by simp[Region.wanted,hgd]
 rw[if_pos hw];obtain⟨v',w',hr,h2,h3,h4,h5⟩:=qU (P:=P) E1 o.type hW hv hsv hlen hmax;unfold Oper.wp execOp;simp only[ho,resolve,invoke,builtin,Sem.run_bind,Sem.run_pure,Result.andThen_ok,List.map_toArray,List.map_cons,List.map_nil,hs,hx,hr];exact h v' w' h2 h3 h4 h5
end
end Go.Proofs.YtedcakchekaemaaGreatDoor
namespace Go.Proofs.YtedcakchekaemaaGreatDoor
open Go.RowKit
structure bJ where
 name:ByteArray
 has:Bool
 al:Int
 ty:Int
 null:Bool
 vk:Int
 vn:Int
 vs:ByteArray
def bJ.cells(x:bJ):List Value:=[.string x.name,.bool x.has,.int .u64 x.al,.int .u32 x.ty,.bool x.null,.int .i64 x.vk,.int .u64 x.vn,.string x.vs]
def bJ.wf(x:bJ):Prop:=0<=x.al/\x.al<=18446744073709551615/\0<=x.ty/\x.ty<=4294967295/\ -9223372036854775808<=x.vk/\x.vk<=9223372036854775807/\0<=x.vn/\x.vn<=18446744073709551615
def bJ.zero:bJ:=⟨⟨#[]⟩,false,0,0,false,0,0,⟨#[]⟩⟩
def bJ.val(x:bJ):Value:=.agg x.cells.toArray
instance:Inhabited bJ:=⟨bJ.zero⟩
theorem bJ.cells_len(x:bJ):x.cells.length=8:=rfl
end Go.Proofs.YtedcakchekaemaaGreatDoor
namespace Go.Proofs.YtedcakchekaemaaGreatDoor
open Go.RowKit Go.ChangeShapes
structure bW where
 name:ByteArray
 has:Bool
 al:Int
 time:Int
 ty:Int
 hist:Bool
 trans:Bool
 null:Bool
 s1:Option Addr×Nat×Nat
 s2:Option Addr×Nat×Nat
 vk:Int
 vn:Int
 vs:ByteArray
 s3:Option Addr×Nat×Nat
 s4:Option Addr×Nat×Nat
def bW.cells(x:bW):List Value:=[.string x.name,.bool x.has,.int .u64 x.al,.int .u64 x.time,.int .u32 x.ty,.bool x.hist,.bool x.trans,.bool x.null,.slice x.s1.1 x.s1.2.1 x.s1.2.2,.slice x.s2.1 x.s2.2.1 x.s2.2.2,.int .i64 x.vk,.int .u64 x.vn,.string x.vs,.slice x.s3.1 x.s3.2.1 x.s3.2.2,.slice x.s4.1 x.s4.2.1 x.s4.2.2]
def bW.wf(x:bW):Prop:=0<=x.al/\x.al<=18446744073709551615/\0<=x.ty/\x.ty<=4294967295/\ -9223372036854775808<=x.vk/\x.vk<=9223372036854775807/\0<=x.vn/\x.vn<=18446744073709551615
def bW.val(x:bW):Value:=.agg x.cells.toArray
def bW.zero:bW:=⟨ByteArray.empty,false,0,0,0,false,false,false,(none,0,0),(none,0,0),0,0,ByteArray.empty,(none,0,0),(none,0,0)⟩
instance:Inhabited bW:=⟨bW.zero⟩
theorem bW.cells_len(x:bW):x.cells.length=15:=rfl
def bY{α:Type}(enc:α->List Value)(k:Nat)(good:α->Prop)(w:World)(a:Option Addr)(L:List α):Prop:=
 L.length<=140737488351232/\(0<L.length-> ∃b o,a=some ⟨b,o,none⟩/\b<w.heap.size/\ ∀i x,L[i]?=some x->good x/\ ∀j v,(enc x)[j]?=some v->w.cell? ⟨b,o+i*k+j,none⟩=some v)
section
variable {α : Type} {enc : α → List Value} {k : Nat} {good : α → Prop}
theorem bY.own{S:List Nat}{w w':World}{a:Option Addr}{L:List α}(h:bY enc k good w a L)(ho:ai S w w')(hS: ∀b,a.map (·.block)=some b->b∉S):bY enc k good w' a L:=by
 obtain⟨h1,h2⟩:=h;refine⟨h1,fun hl=>?_⟩;obtain⟨b,o,rfl,hb,hx⟩:=h2 hl;exact⟨b,o,rfl,Nat.lt_of_lt_of_le hb ho.size,fun i x hi=>⟨(hx i x hi).1,fun j v hj=>(ho.cell (p:=⟨b,o+i*k+j,none⟩) hb (hS b rfl)).trans ((hx i x hi).2 j v hj)⟩⟩
theorem bY.nil'{w w':World}{a:Option Addr}{L:List α}(h:bY enc k good w a L)(ho:ai [] w w'):bY enc k good w' a L:=h.own ho (by simp)
theorem bY.below{w w':World}{a:Option Addr}{L:List α}(h:bY enc k good w a L){B:Nat}(ho:Below B w w')(hB:w.heap.size<=B):bY enc k good w' a L:=h.nil' (ai.of_below ho hB)
theorem bY.all_good{w:World}{a:Option Addr}{L:List α}(h:bY enc k good w a L): ∀x∈L,good x:=by
 intro x hx;obtain⟨i,hi⟩:=List.getElem?_of_mem hx;have hl:0<L.length:=by
  rcases L with _|⟨y,r⟩
  ·cases hx
  ·simp
 obtain⟨b,o,_,_,h3⟩:=h.2 hl;exact(h3 i x hi).1
theorem bY.empty(w:World)(a:Option Addr):bY enc k good w a []:=⟨by simp,fun h=>by simp at h⟩
theorem bY.of_row{T:TypeId}{w:World}{g cap:Nat}{L:List α}(h:si T enc k w g cap L)(hk: ∀x,(enc x).length=k)(hl:L.length<=140737488351232)(hg: ∀x∈L,good x):bY enc k good w (some ⟨g,0,none⟩) L:=by
 refine⟨hl,fun _=>⟨g,0,rfl,h.lt,fun i x hi=>⟨hg x (List.mem_of_getElem? hi),fun j v hj=>?_⟩⟩⟩;have:=h.cell hk hi hj;simpa using this
theorem bY.of_owns{T:TypeId}{w:World}{a:Option Addr}{n cap:Nat}{L:List α}(h:w.ownsRow 0 T k (.slice a n cap) n (aI enc L))(hn:n=L.length)(hk: ∀x,(enc x).length=k)(hl:L.length<=140737488351232)(hg: ∀x∈L,good x):bY enc k good w a L:=by
 by_cases h0:L.length=0
 ·rw[List.eq_nil_of_length_eq_zero h0]
  exact bY.empty _ _
 ·by_cases hv:(Value.slice a n cap)=.slice none 0 0
  ·cases hv
   omega
  ·obtain⟨g,cap',he,hR⟩:=sj h hn hv
   cases he;exact bY.of_row hR hk hl hg
end
abbrev bB:=bY bJ.cells 8 bJ.wf
abbrev eF:=bY bW.cells 15 bW.wf
end Go.Proofs.YtedcakchekaemaaGreatDoor
namespace Go.Proofs.YtedcakchekaemaaGreatDoor
open Go.RowKit
def nD(L:List bJ)(n:ByteArray):Option Nat:=L.findIdx? fun x=>x.name==n
def gy(L:List bJ)(n:ByteArray):Int:=match nD L n with|some i=>i|none=> -1
def dU(L:List bJ)(i:Nat):bJ:=L.getD i bJ.zero
theorem oC{L:List bJ}{i:Nat}(h:i<L.length):L[i]?=some (dU L i):=by simp[dU,List.getD,h]
theorem Hg{L:List bJ}{n:ByteArray}{i:Nat}(hi:i<L.length)(h0: ∀j,j<i->((dU L j).name==n)=false)(h1:((dU L i).name==n)=true):nD L n=some i:=by
 unfold nD;rw[List.findIdx?_eq_some_iff_getElem];simp only[dU,List.getD,List.getElem?_eq_getElem hi,Option.getD_some]at h1;refine⟨hi,h1,fun j hj=>?_⟩;have:=h0 j hj;simp only[dU,List.getD,List.getElem?_eq_getElem (show j<L.length by omega),Option.getD_some]at this;simp[this]
theorem Hl{L:List bJ}{n:ByteArray}(h0: ∀j,j<L.length->((dU L j).name==n)=false):nD L n=none:=by
 unfold nD;rw[List.findIdx?_eq_none_iff];intro x hx;obtain⟨j,hj,rfl⟩:=List.getElem_of_mem hx;have:=h0 j hj;simpa only[dU,List.getD,List.getElem?_eq_getElem hj,Option.getD_some]using this
theorem Ee{L:List bJ}{n:ByteArray}{i:Nat}(h:nD L n=some i):i<L.length/\(dU L i).name=n:=by
 obtain⟨hl,hk,_⟩:=List.findIdx?_eq_some_iff_getElem.1 h;refine⟨hl,?_⟩;simp only[dU,List.getD,List.getElem?_eq_getElem hl,Option.getD_some];exact LawfulBEq.eq_of_beq hk
theorem uz(L:List bJ)(n:ByteArray):gy L n<L.length/\ -1<=gy L n:=by
 unfold gy;cases h:nD L n with
 |none=>simp only;omega
 |some i=>have:=(Ee h).1;simp only;omega
theorem bY.item{w:World}{a:Option Addr}{L:List bJ}(h:bB w a L){k:Nat}(hk:k<L.length): ∃b o,a=some ⟨b,o,none⟩/\b<w.heap.size/\(dU L k).wf/\ ∀j v,(dU L k).cells[j]?=some v->w.cell? ⟨b,o+k*8+j,none⟩=some v:=by
 obtain⟨b,o,e,hb,hx⟩:=h.2 (by omega);exact⟨b,o,e,hb,hx k _ (oC hk)⟩
theorem Ho(kb:Nat)(k2:ByteArray)(nm:ByteArray)(hs:Bool)(al ty:Int)(nu:Bool)(vk vn:Int)(vs:ByteArray)(w:World)(h2:w.cell? ⟨kb,0,none⟩=some (.string k2)):
  Calls Tryz.prog 336 #[.agg #[.string nm,.bool hs,.int .u64 al,.int .u32 ty,.bool nu,.int .i64 vk,.int .u64 vn,.string vs],.pointer (some ⟨kb,0,none⟩)] w fun e w'=>e=.returned (.bool (nm==k2))/\ai [] w w':=by
 rw[beq_toListBytes];have hkb:=block_lt_of_cell h2;have h2': ∀o,(w.alloc o).cell? ⟨kb,0,none⟩=some (.string k2):=fun o=>((ai.refl [] w).alloc o).cell (p:=⟨kb,0,none⟩) hkb (by simp) |>.trans h2
 go_enter Tryz.func336,Tryz.ntmps336
 go_wp2_with fail
 go_ret
 exact⟨rfl,(ai.refl _ _).alloc _⟩
theorem LV(a:Option Addr)(L:List bJ)(cap kb:Nat)(key:ByteArray)(w:World)(h:bB w a L)(hk:w.cell? ⟨kb,0,none⟩=some (.string key)):
  Calls Tryz.prog 335 #[.slice a L.length cap,.func (.func 336) #[] #[.pointer (some ⟨kb,0,none⟩)]] w fun e w'=>e=.returned (.int .i64 (gy L key))/\ai [] w w':=by
 have hkb:=block_lt_of_cell hk;have hl:=h.1;generalize hr:gy L key=r;change Hid _ at hr;replace h:=af h;go_enter Tryz.func335,Tryz.ntmps335
 go_wp2_with fail
 go_loopg[8] L.length (fun g s8 wr=> ∃k:Nat,k<=L.length/\g=L.length-k/\s8=.int .i64 k/\ai [] w wr/\Hid (∀j,j<k->((dU L j).name==key)=false))
 case atStart=>exact⟨0,by omega,by omega,rfl,ai.refl _ _,af (fun j hj=>by omega)⟩
 case round=>
  obtain⟨k,hk1,rfl,rfl,hO,hN⟩:=hrel;by_cases hlt:k<L.length
  ·have hi:=(h.out.nil' hO).item hlt
   have hlast: ∀b,((dU L k).name==key)=b->if b then r=k else(∀j,j<k+1->((dU L j).name==key)=false):=by
    intro b hb;cases b
    ·simp only[Bool.false_eq_true,if_false]
     intro j hj;by_cases e:j=k
     ·rw[e];exact hb
     ·exact hN.out j (by omega)
    ·simp only[if_true]
     rw[<-hr.out];unfold gy;rw[Hg hlt hN.out hb]
   generalize dU L k=x at hi hlast;obtain⟨b,o,rfl,hb,hwf,hc⟩:=hi;obtain⟨nm,hs,al,ty,nu,vk,vn,vs⟩:=x;have E:=Ho kb key nm hs al ty nu vk vn vs wr ((hO.cell (p:=⟨kb,0,none⟩) hkb (by simp)).trans hk);have c0:=hc 0 _ rfl;have c1:=hc 1 _ rfl;have c2:=hc 2 _ rfl;have c3:=hc 3 _ rfl;have c4:=hc 4 _ rfl;have c5:=hc 5 _ rfl;have c6:=hc 6 _ rfl;have c7:=hc 7 _ rfl;simp only[Nat.add_zero]at c0;simp only at hlast;generalize(nm==key)=bb at E hlast;have hlast:=af (hlast bb rfl);replace E:=af E;clear hc hwf hb;go_wp2_with fail
   refine E.out.mono ?_;rintro e w2 ⟨rfl,hO2⟩;clear c0 c1 c2 c3 c4 c5 c6 c7;cases bb
   ·go_wp2_with fail
    go_roundg(L.length-(k+1))
    case measure=>omega
    case rel=>exact⟨k+1,by omega,rfl,by go_num,hO.trans hO2,af (by simpa using hlast.out)⟩
   ·go_wp2_with fail
    go_ret
    exact⟨by rw[show r=(k:Int)by simpa using hlast.out];rfl,hO.trans hO2⟩
  ·have hrn:r= -1:=by
    rw[<-hr.out];unfold gy;rw[Hl (fun j hj=>hN.out j (by omega))]
   change Hid _ at hrn;have hge:L.length<=k:=by omega
   go_wp2_with fail
   go_ret
   exact⟨by rw[hrn.out];rfl,hO⟩
theorem AX(a:Option Addr)(L:List bJ)(cap lb:Nat)(key:ByteArray)(w:World)(h:bB w a L)(hk:w.cell? ⟨lb,0,none⟩=some (.slice a L.length cap)):
  Calls Tryz.prog 323 #[.string key,.slice (some ⟨lb,0,none⟩) 1 1] w fun e w'=>e=.returned (.int .i64 (gy L key))/\ai [] w w':=by
 have hlb:=block_lt_of_cell hk;have hl:=h.1;have hp:=uz L key;have I:=LV a L cap w.heap.size key (w.alloc (.cells #[.string key] 9)) (h.nil' ((ai.refl [] _).alloc _)) (by simp);have hk':(w.alloc (.cells #[.string key] 9)).cell? ⟨lb,0,none⟩=some (.slice a L.length cap):=(((ai.refl [] w).alloc _).cell (p:=⟨lb,0,none⟩) hlb (by simp)).trans hk;generalize gy L key=r at I hp;replace I:=af I;clear h;obtain⟨hp1,hp2⟩:=hp;go_enter Tryz.func323,Tryz.ntmps323
 go_wp2_with fail
 refine wp_loop_rounds 2 ?_;rw[rounds_succ];go_wp2_with fail
 refine I.out.mono ?_;rintro e w2 ⟨rfl,hO2⟩;have hO3:=((ai.refl [] w).alloc (.cells #[.string key] 9)).trans hO2;by_cases hr:0<=r
 ·go_wp2_with fail
  go_ret
  exact⟨rfl,hO3⟩
 ·have hr1:Hid (r= -1):=af (by omega)
  go_wp2_with fail
  rw[rounds_succ];go_wp2_with fail
  go_ret
  exact⟨by rw[hr1.out];rfl,hO3⟩
end Go.Proofs.YtedcakchekaemaaGreatDoor
namespace Go.Proofs.YtedcakchekaemaaGreatDoor
variable [Kd]
theorem Qo(a b k:Nat)(h:a<2^k):a|||(b*2^k)=a+b*2^k:=by
 have e:=Nat.shiftLeft_add_eq_or_of_lt h b;rw[Nat.shiftLeft_eq]at e;rw[Nat.or_comm,<-e,Nat.add_comm]
theorem Ev{v c:Int}{k:Nat}(h0:0<=v)(h1:v<2^k)(c0:0<=c)(hs:v+c*2^k<=18446744073709551615):Go.bits .or .u64 v (c*2^k)=v+c*2^k:=by
 obtain⟨a,rfl⟩:=Int.eq_ofNat_of_zero_le h0;obtain⟨b,rfl⟩:=Int.eq_ofNat_of_zero_le c0;have hp:((2^k:Nat):Int)=(2:Int)^k:=by simp
 have e:((b:Int)*2^k)=((b*2^k:Nat):Int):=by rw[Int.natCast_mul,hp]
 have h1':a<2^k:=by rw[<-hp]at h1;omega
 rw[e]at hs⊢;rw[bits_or_u64_nat a (b*2^k) (by omega) (by omega),Qo a b k h1'];omega
theorem xR(a b:Nat)(ha:a<4294967296)(hb:b<4294967296):
  bits .or .u32 (a:Int) (b:Int)=((a|||b:Nat):Int):=by
 have hx:a|||b<2^32:=Nat.or_lt_two_pow (by omega) (by omega);have h1:(BitVec.ofInt 32 (a:Int)).toNat=a:=by
  rw[BitVec.ofInt_natCast,BitVec.toNat_ofNat];exact Nat.mod_eq_of_lt (by omega)
 have h2:(BitVec.ofInt 32 (b:Int)).toNat=b:=by
  rw[BitVec.ofInt_natCast,BitVec.toNat_ofNat];exact Nat.mod_eq_of_lt (by omega)
 show IntKind.u32.wrap ((BitVec.ofInt 32 (a:Int)|||BitVec.ofInt 32 (b:Int)).toNat:Int)=_;rw[BitVec.toNat_or,h1,h2,IntKind.wrap_u32];omega
theorem Qp{v c:Int}{k:Nat}(h0:0<=v)(h1:v<2^k)(c0:0<=c)(hs:v+c*2^k<=4294967295):Go.bits .or .u32 v (c*2^k)=v+c*2^k:=by
 obtain⟨a,rfl⟩:=Int.eq_ofNat_of_zero_le h0;obtain⟨b,rfl⟩:=Int.eq_ofNat_of_zero_le c0;have hp:((2^k:Nat):Int)=(2:Int)^k:=by simp
 have e:((b:Int)*2^k)=((b*2^k:Nat):Int):=by rw[Int.natCast_mul,hp]
 have h1':a<2^k:=by rw[<-hp]at h1;omega
 rw[e]at hs⊢;rw[xR a (b*2^k) (by omega) (by omega),Qo a b k h1'];omega
theorem Ia: ∀n:Fin 256,Go.bits .and .u8 ((n.val:Nat):Int) 127=((n.val:Nat):Int)%128:=by decide+kernel
theorem Zv{c:Int}(h0:0<=c)(h1:c<256):Go.bits .and .u8 c 127=c%128:=by
 obtain⟨n,rfl⟩:=Int.eq_ofNat_of_zero_le h0;exact Ia ⟨n,by omega⟩
def yc:List (Nat×Int)->Int->Nat->Int×Nat×Bool
 | [],v,n=>(v,n,false)
 |x::r,v,n=>if n+1=10/\1<x.2 then(v,n+1,false)
  else if x.2<128 then(Go.bits .or .u64 v (IntKind.u64.wrap (IntKind.u64.wrap (Go.bits .and .u8 x.2 127)*2^min x.1 64)),n+1,true)
  else yc r (Go.bits .or .u64 v (IntKind.u64.wrap (IntKind.u64.wrap (Go.bits .and .u8 x.2 127)*2^min x.1 64))) (n+1)
def uI:Nat->List Int->List (Nat×Int)
 |_,[]=>[]
 |k,c::r=>if k<10 then(7*k,c)::uI (k+1) r else[]
theorem Qq{v c:Int}{k:Nat}(c0:0<=c)(c1:c<256)(hk:k<=9)(h0:0<=v)(h1:v<2^(7*k))(h9: ¬(k+1=10/\1<c)):
  Go.bits .or .u64 v (IntKind.u64.wrap (IntKind.u64.wrap (Go.bits .and .u8 c 127)*2^min (7*k) 64))=v+c%128*2^(7*k)/\0<=v+c%128*2^(7*k)/\v+c%128*2^(7*k)<2^(7*(k+1)):=by
 have hp:(0:Int)<2^(7*k):=Int.pow_pos (by omega);have hm0:0<=c%128:=by omega
 have hm1:c%128<=127:=by omega
 have hpr:c%128*2^(7*k)<=127*2^(7*k):=Int.mul_le_mul_of_nonneg_right hm1 (Int.le_of_lt hp);have UA:0<=c%128*2^(7*k):=Int.mul_nonneg hm0 (Int.le_of_lt hp);have hq:(2:Int)^(7*(k+1))=128*2^(7*k):=by
  rw[Nat.mul_add,Int.pow_add];simp[Int.mul_comm]
 have hs:v+c%128*2^(7*k)<=18446744073709551615:=by
  rcases Nat.lt_or_ge k 9 with JR|JR
  ·have:(2:Int)^(7*k)<=2^56:=xZ (by omega)
   omega
  ·obtain rfl:k=9:=by omega
   have:c<=1:=by omega
   have e:c%128=c:=by omega
   rw[e]at UA⊢;have h3:c*2^(7*9)<=1*2^(7*9):=Int.mul_le_mul_of_nonneg_right this (Int.le_of_lt hp);have h4:(2:Int)^(7*9)=9223372036854775808:=by decide
   omega
 refine⟨?_,by omega,by omega⟩;rw[Zv c0 c1,Nat.min_eq_left (by omega)];have e1:IntKind.u64.wrap (c%128)=c%128:=by rw[IntKind.wrap_u64];omega
 rw[e1];have e2:IntKind.u64.wrap (c%128*2^(7*k))=c%128*2^(7*k):=by rw[IntKind.wrap_u64];omega
 rw[e2];exact Ev h0 h1 hm0 hs
theorem Co: ∀(l:List Int) (k:Nat) (v:Int),pE l->k<=9->0<=v->v<2^(7*k)->
  match tq l k v with
  |some (x,n)=>yc (uI k l) v k=(x,n,true)
  |none=> ∃x n,yc (uI k l) v k=(x,n,false)
 | [],k,v,_,_,_,_=>by simp[tq,uI,yc]
 |c::r,k,v,hB,hk,h0,h1=>by
  obtain⟨c0,c1⟩:=hB c (by simp);have hs:uI k (c::r)=(7*k,c)::uI (k+1) r:=by simp[uI];omega
  rw[hs];by_cases h9:k=9/\1<c
  ·have e1:tq (c::r) k v=none:=by simp only[tq];rw[if_pos h9]
   have e2:yc ((7*k,c)::uI (k+1) r) v k=(v,k+1,false):=by simp only[yc];rw[if_pos (by omega)]
   rw[e1,e2];exact⟨v,k+1,rfl⟩
  ·have h9': ¬(k+1=10/\1<c):=by omega
   obtain⟨e,e0,e1⟩:=Qq c0 c1 hk h0 h1 h9';by_cases hc:c<128
   ·have e1:tq (c::r) k v=some (v+c%128*2^(7*k),k+1):=by simp only[tq];rw[if_neg h9,if_pos hc]
    have e2:yc ((7*k,c)::uI (k+1) r) v k=(v+c%128*2^(7*k),k+1,true):=by simp only[yc];rw[if_neg h9',if_pos hc,e]
    rw[e1,e2]
   ·have e1':tq (c::r) k v=tq r (k+1) (v+c%128*2^(7*k)):=by simp only[tq];rw[if_neg h9,if_neg hc,if_neg (by omega)]
    have e2:yc ((7*k,c)::uI (k+1) r) v k=yc (uI (k+1) r) (v+c%128*2^(7*k)) (k+1):=by simp only[yc];rw[if_neg h9',if_neg hc,e]
    rw[e1',e2];exact Co r (k+1) _ (fun y hy=>hB y (by simp[hy])) (by omega) e0 e1
theorem wO: ∀(l:List Int) (c:Int),mW (l++[c])=mW l+c*2^(8*l.length)
 | [],c=>by simp[mW]
 |x::r,c=>by
  simp only[List.cons_append,mW,List.length_cons];rw[wO r c];have hq:(2:Int)^(8*(r.length+1))=256*2^(8*r.length):=by
   rw[Nat.mul_add,Int.pow_add];simp[Int.mul_comm]
  rw[hq,Int.mul_add,<-Int.mul_assoc,<-Int.mul_assoc,Int.mul_comm 256 c];omega
theorem jT: ∀(l:List Int),pE l->0<=mW l/\mW l<2^(8*l.length)
 | [],_=>by simp[mW]
 |x::r,h=>by
  obtain⟨x0,x1⟩:=h x (by simp);obtain⟨r0,r1⟩:=jT r (fun y hy=>h y (by simp[hy]));have hq:(2:Int)^(8*(r.length+1))=256*2^(8*r.length):=by
   rw[Nat.mul_add,Int.pow_add];simp[Int.mul_comm]
  simp only[mW,List.length_cons];omega
end Go.Proofs.YtedcakchekaemaaGreatDoor
namespace Go.Proofs.YtedcakchekaemaaGreatDoor
open Go.RowKit
def eZ(v:Value):Prop:= ∀a n c,v=.slice a n c->n<=c
theorem aG.drop{α:Type}{enc:α->List Value}{k:Nat}{P:Program}{T t:TypeId}{bytes:Nat}{w:World}{v:Value}{l:List α}(h:aG enc w v l)(E:jG P t T enc k bytes)(hcap:eZ v){i:Nat}(hi:i<=l.length):
  ∃v1,(∀W,(Instr.sliceAt t v (some (.int .i64 i)) none none).run P W=.ok v1 W)/\aG enc w v1 (l.drop i)/\(∀b,v1.ownBlock=some b->v.ownBlock=some b)/\eZ v1:=by
 obtain⟨inf,z,Dk,_,hsz,_,_⟩:=E.info;have hs: ∀W,(sizeOf T).run P W=.ok k W:=fun W=>by simp[sizeOf,typeInfo,Dk,hsz]
 have hi0:(0:Int)<=i:=by omega
 rcases h with⟨rfl,rfl⟩|⟨g,o,cap,rfl,hR⟩
 ·obtain rfl:i=0:=by simpa using hi
  refine⟨.slice none 0 0,fun W=>?_,.inl ⟨rfl,by simp⟩,fun b hb=>hb,hcap⟩;simp[Instr.sliceAt,Instr.slice,run_underlying E.ut,Instr.sliceBounds,run_sliceBound,hs,Result.andThen]
 ·have h2:(i:Int)<=l.length:=by omega
  have hl:(aI enc (l.take i)).length=i*k:=by rw[bq E.len,List.length_take_of_le hi]
  have hget: ∀j u,(aI enc (l.drop i))[j]?=some u->w.cell? ⟨g,o+(i*k+j),none⟩=some u:=fun j u hu=>by
   refine hR (i*k+j) u ?_
   conv=>lhs;rw[<-List.take_append_drop i l,bV]
   rw[List.getElem?_append_right (by omega),hl,Nat.add_sub_cancel_left];exact hu
  have hlc:=hcap _ _ _ rfl;have hco:eZ (.slice (some ⟨g,o,none⟩) (l.length-i) (cap-i)):=fun a n c e=>by cases e;omega
  have aak:eZ (.slice (some ⟨g,o+i*k,none⟩) (l.length-i) (cap-i)):=fun a n c e=>by cases e;omega
  by_cases hc:cap=i
  ·refine⟨.slice (some ⟨g,o,none⟩) (l.length-i) (cap-i),fun W=>?_,.inr ⟨g,o,cap-i,by rw[List.length_drop],fun j u hu=>?_⟩,fun b hb=>by simpa[Value.ownBlock]using hb,hco⟩
   ·simp[Instr.sliceAt,Instr.slice,run_underlying E.ut,Instr.sliceBounds,run_sliceBound,hs,Result.andThen,hi0,h2,hc]
   ·exfalso
    have hj:=(List.getElem?_eq_some_iff.1 hu).1;rw[bq E.len,List.length_drop,show l.length-i=0 by omega]at hj;omega
  ·refine⟨.slice (some ⟨g,o+i*k,none⟩) (l.length-i) (cap-i),fun W=>?_,.inr ⟨g,o+i*k,cap-i,by rw[List.length_drop],fun j u hu=>?_⟩,fun b hb=>by simpa[Value.ownBlock]using hb,aak⟩
   ·simp[Instr.sliceAt,Instr.slice,run_underlying E.ut,Instr.sliceBounds,run_sliceBound,hs,Result.andThen,hi0,h2,hc,Addr.add]
   ·rw[Nat.add_assoc];exact hget j u hu
def bL(x:Int):List Value:=[.int .u8 x]
theorem wL(x:Int):(bL x).length=1:=rfl
theorem abM:(Tryz.prog.info? 5).map (fun i=>(i.zero,i.size,i.bytes))=some (some (.int .u8 0),1,1):=by kernel_rfl
theorem Qk:jG Tryz.prog 23 5 bL 1 1 where
 ut:=Tryz.underlying23
 info:=by obtain⟨i,h1,h2,h3,h4⟩:=info_parts abM;exact⟨i,_,h1,h2,h3,h4,rfl⟩
 pos:=by omega
 len:=fun _=>rfl
 one x u hu:=by simp only[bL,List.mem_cons,List.not_mem_nil,or_false]at hu;subst hu;rfl
theorem aG.mid{α:Type}{enc:α->List Value}{k:Nat}{P:Program}{T t:TypeId}{bytes:Nat}{w:World}{v:Value}{l:List α}(h:aG enc w v l)(E:jG P t T enc k bytes)(hcap:eZ v){i j:Nat}(hij:i<=j)(hj:j<=l.length):
  ∃v1,(∀W,(Instr.sliceAt t v (some (.int .i64 i)) (some (.int .i64 j)) none).run P W=.ok v1 W)/\aG enc w v1 ((l.drop i).take (j-i))/\(∀b,v1.ownBlock=some b->v.ownBlock=some b)/\eZ v1:=by
 obtain⟨inf,z,Dk,_,hsz,_,_⟩:=E.info;have hs: ∀W,(sizeOf T).run P W=.ok k W:=fun W=>by simp[sizeOf,typeInfo,Dk,hsz]
 have hi0:(0:Int)<=i:=by omega
 have hij':(i:Int)<=j:=by omega
 rcases h with⟨rfl,rfl⟩|⟨g,o,cap,rfl,hR⟩
 ·obtain rfl:j=0:=by simpa using hj
  obtain rfl:i=0:=by omega
  refine⟨.slice none 0 0,fun W=>?_,.inl ⟨rfl,by simp⟩,fun b hb=>hb,hcap⟩;simp[Instr.sliceAt,Instr.slice,run_underlying E.ut,Instr.sliceBounds,run_sliceBound,hs,Result.andThen]
 ·have hlc:=hcap _ _ _ rfl
  have hjc:(j:Int)<=cap:=by omega
  have hic:(i:Int)<=cap:=by omega
  have hlen:((l.drop i).take (j-i)).length=j-i:=by rw[List.length_take,List.length_drop];omega
  have hl:(aI enc (l.take i)).length=i*k:=by rw[bq E.len,List.length_take_of_le (by omega)]
  have hget: ∀m u,(aI enc ((l.drop i).take (j-i)))[m]?=some u->w.cell? ⟨g,o+(i*k+m),none⟩=some u:=fun m u hu=>by
   refine hR (i*k+m) u ?_;have h1:l=l.take i++((l.drop i).take (j-i)++(l.drop i).drop (j-i)):=by rw[List.take_append_drop,List.take_append_drop]
   conv=>lhs;rw[h1,bV,bV]
   rw[List.getElem?_append_right (by omega),hl,Nat.add_sub_cancel_left];rw[List.getElem?_append_left (List.getElem?_eq_some_iff.1 hu).1];exact hu
  have hco:eZ (.slice (some ⟨g,o,none⟩) (j-i) (cap-i)):=fun a n c e=>by cases e;omega
  have aak:eZ (.slice (some ⟨g,o+i*k,none⟩) (j-i) (cap-i)):=fun a n c e=>by cases e;omega
  have hsub:((j:Int)-i).toNat=j-i:=by omega
  by_cases hc:cap=i
  ·refine⟨.slice (some ⟨g,o,none⟩) (j-i) (cap-i),fun W=>?_,.inr ⟨g,o,cap-i,by rw[hlen],fun m u hu=>?_⟩,fun b hb=>by simpa[Value.ownBlock]using hb,hco⟩
   ·have:j=i:=by omega
    subst this;simp[Instr.sliceAt,Instr.slice,run_underlying E.ut,Instr.sliceBounds,run_sliceBound,hs,Result.andThen,hi0,hij',hjc,hic,hc]
   ·exfalso
    have hj:=(List.getElem?_eq_some_iff.1 hu).1;rw[bq E.len,hlen,show j-i=0 by omega]at hj;omega
  ·refine⟨.slice (some ⟨g,o+i*k,none⟩) (j-i) (cap-i),fun W=>?_,.inr ⟨g,o+i*k,cap-i,by rw[hlen],fun m u hu=>?_⟩,fun b hb=>by simpa[Value.ownBlock]using hb,aak⟩
   ·simp[Instr.sliceAt,Instr.slice,run_underlying E.ut,Instr.sliceBounds,run_sliceBound,hs,Result.andThen,hi0,hij',hjc,hic,hc,Addr.add]
   ·rw[Nat.add_assoc];exact hget m u hu
def lT(n:Nat)(at' wd:Int):Int:=if at'<0\/(n:Int)<at' then 1 else if(n:Int)-at'<wd then 2 else 0
theorem Kz(v:Value)(B:List Int)(at' wd:Int)(w:World)(h:aG bL w v B)(hl:B.length<=140737488351232)(ha:at'<=140737488351232)(hb:lT B.length at' wd≠0):
  Calls Tryz.prog 343 #[v,.int .i64 at',.int .i64 wd] w fun e w'=>e=.returned (.tuple #[.slice none 0 0,.int .i64 (lT B.length at' wd)])/\w=w':=by
 obtain⟨a,c,rfl⟩:=h.form;clear h;unfold lT at hb⊢;generalize B.length=n at*;by_cases h1:at'<0
 ·rw[if_pos (.inl h1)]
  go_enter Tryz.func343,Tryz.ntmps343
  go_wp2_with fail
  go_ret2
  exact⟨rfl,rfl⟩
 ·by_cases h2:(n:Int)<at'
  ·rw[if_pos (.inr h2)]
   go_enter Tryz.func343,Tryz.ntmps343
   go_wp2_with fail
   go_ret2
   exact⟨rfl,rfl⟩
  ·have h12: ¬(at'<0\/(n:Int)<at'):=fun h=>h.elim h1 h2
   rw[if_neg h12]at hb⊢;have h3:(n:Int)-at'<wd:=by
    by_cases h3:(n:Int)-at'<wd
    ·exact h3
    ·rw[if_neg h3]at hb;exact absurd rfl hb
   rw[if_pos h3];have hw:IntKind.wrap .i64 ((n:Int)-at')=(n:Int)-at':=by rw[IntKind.wrap_i64];omega
   have h2':at'<=(n:Int):=by omega
   clear hb h12 h2;go_enter Tryz.func343,Tryz.ntmps343
   go_wp2_with fail
   go_ret2
   exact⟨rfl,rfl⟩
theorem Ql(v:Value)(B:List Int)(i wd:Nat)(w:World)(h:aG bL w v B)(hc:eZ v)(hl:B.length<=140737488351232)(hi:i+wd<=B.length):
  Calls Tryz.prog 343 #[v,.int .i64 i,.int .i64 wd] w fun e w'=>(∃v1,e=.returned (.tuple #[v1,.int .i64 0])/\aG bL w v1 ((B.drop i).take wd)/\eZ v1)/\w=w':=by
 obtain⟨v1,hs,hR,_,hc1⟩:=h.mid Qk hc (i:=i) (j:=i+wd) (by omega) hi;rw[Nat.add_sub_cancel_left]at hR;obtain⟨a,c,rfl⟩:=h.form;have hs':(Instr.sliceAt 23 (.slice a B.length c) (some (.int .i64 i)) (some (.int .i64 ((i:Int)+wd))) none).run Tryz.prog w=.ok v1 w:=by
  have:=hs w;rwa[show((i+wd:Nat):Int)=(i:Int)+wd by omega]at this
 clear hs h hc;change Hid _ at hR hc1;generalize B.length=n at*;have hw:IntKind.wrap .i64 ((n:Int)-i)=(n:Int)-i:=by rw[IntKind.wrap_i64];omega
 have hw2:IntKind.wrap .i64 ((i:Int)+wd)=(i:Int)+wd:=by rw[IntKind.wrap_i64];omega
 have h0: ¬((i:Int)<0):=by omega
 have h1:(i:Int)<=n:=by omega
 have h2:(wd:Int)<=(n:Int)-i:=by omega
 go_enter Tryz.func343,Tryz.ntmps343
 go_wp2_with fail
 go_ret2
 exact⟨⟨v1,rfl,hR.out,hc1.out⟩,rfl⟩
end Go.Proofs.YtedcakchekaemaaGreatDoor
namespace Go.Proofs.YtedcakchekaemaaGreatDoor
open Go.RowKit Go.Shelf
variable [Kd]
attribute [local go_sem] Oper.semAt_some
def qL(B:List Int):List (Nat×Int):=(List.range (min B.length 10)).map fun(i:Nat)=>(7*i,B.getD i 0)
theorem zi(B:List Int):(qL B).length=min B.length 10:=by simp[qL]
theorem Mh{B:List Int}{k:Nat}(hk:k<min B.length 10):(qL B).take (k+1)=(qL B).take k++[(7*k,B.getD k 0)]:=by
 rw[List.take_succ_eq_append_getElem (by rw[zi];exact hk)];simp[qL]
theorem Qr(n:Nat)(hn:1<=n)(l Bx:Nat)(Kp:World->World->Prop)(va:Option Addr)(c:Nat)(B:List Int)(J Jx:List (Nat×Int)->World->Prop)
  (hY: ∀pre x W,J pre W->pre.length<min B.length 10->YieldAt Fence.wide (n-1) Tryz.prog l #[.int .i64 (x.1:Int),.int .u8 x.2] W fun e W'=>
   (e=.returned (.bool true)/\J (pre++[x]) W'/\Kp W W')\/(e=.returned (.bool false)/\Jx (pre++[x]) W'))
  (W:World)(hc:W.cell? ⟨Bx,0,none⟩=some (.slice va B.length c))(hKr:Kp W W)(hKt: ∀A B C,Kp A B->Kp B C->Kp A C)(hR: ∀W',Kp W W'->W'.cell? ⟨Bx,0,none⟩=some (.slice va B.length c)/\aG bL W' (.slice va B.length c) B)(hl:B.length<=140737488351232)(h0:J [] W):
  CallsIn Fence.wide n Tryz.prog 332 #[.func (.yield l) #[] #[],.pointer (some ⟨Bx,0,none⟩)] W fun e W'=>(∃v,e=.returned v)/\
   (J (qL B) W'\/(∃pre,(∃k,pre=(qL B).take k)/\Jx pre W')):=by
 refine callsIn_of_wp Tryz.func332 rfl trivial ?_ rfl;simp only[Tryz.ntmps332,List.size_toArray,List.length_cons,List.length_nil,Nat.reduceAdd,Nat.reduceSub,Array.replicate_succ,Array.replicate_zero,List.push_toArray,List.append_toArray,List.nil_append,List.cons_append];have hR':Hid (∀W',Kp W W'->W'.cell? ⟨Bx,0,none⟩=some (.slice va B.length c)/\ ∀k,k<B.length-> ∃bb oo,va=some ⟨bb,oo,none⟩/\W'.cell? ⟨bb,oo+k,none⟩=some (.int .u8 (B.getD k 0))):=af fun W' hb=>by
  refine⟨(hR W' hb).1,fun k hk=>?_⟩;obtain⟨q,hq⟩: ∃q,B[k]?=some q:=⟨_,List.getElem?_eq_getElem hk⟩;obtain⟨bb,oo,hab,hx⟩:=(hR W' hb).2.at_ wL (by omega);have e:=hx k q 0 _ hq rfl;simp only[Nat.mul_one,Nat.add_zero]at e;exact⟨bb,oo,hab,by rw[e];simp[List.getD,hq]⟩
 clear hR
 gi_wp2
 all_goals
  clear hc
  gi_loopg [3,7] (min B.length 10) (fun g s3 s7 wr=> ∃k:Nat,k<=min B.length 10/\g=min B.length 10-k/\s7=.int .i64 k/\Aside (Kp W wr)/\Aside (J ((qL B).take k) wr))
  case atStart=>exact⟨0,Nat.zero_le _,rfl,rfl,hKr,h0⟩
  case round=>
   obtain⟨k,hk,rfl,rfl,hb,hJ⟩:=hrel;obtain⟨b0,hcell⟩:=hR'.out wr hb.out;by_cases hkm:k<min B.length 10
   ·have hkl:k<B.length:=by omega
    have hk10:(k:Int)<10:=by omega
    obtain⟨bb,oo,rfl,d0⟩:=hcell k hkl;have hYk:=hY ((qL B).take k) (7*k,B.getD k 0) wr hJ.out (by rw[List.length_take,zi];omega);simp only[show((7*k:Nat):Int)=7*(k:Int)by omega]at hYk;obtain⟨fn,tmps,assign,body,hy,uO⟩:=hYk;have hw:IntKind.wrap .i64 (7*(k:Int))=7*(k:Int):=by rw[IntKind.wrap_i64];omega
    rw[<-Mh hkm]at uO;generalize B.getD k 0=q at*;clear hcell
    gi_wp2
    refine uO.mono ?_;rintro e W3 (⟨rfl,hJ3,hk3⟩|⟨rfl,hJx3⟩)
    ·have hb3:Aside (Kp W W3):=hKt _ _ _ hb.out hk3
     change Hid _ at hJ3;clear hy hk3 b0 d0
     gi_wp2
     gi_roundg (min B.length 10-(k+1))
     case measure=>omega
     case rel=>exact⟨k+1,by omega,rfl,by go_num,hb3,hJ3.out⟩
    ·replace hJx3:=af hJx3
     clear hy b0 d0
     gi_wp2
     refine bodyPost_ret (results_none rfl _ _ _) rfl ?_;exact⟨⟨_,rfl⟩,.inr ⟨_,⟨k+1,rfl⟩,hJx3.out⟩⟩
   ·have hkk:k=(qL B).length:=by rw[zi];omega
    have hJe:J (qL B) wr:=by have:=hJ.out;rwa[hkk,List.take_length]at this
    have hkn: ¬(k:Int)<B.length\/ ¬(k:Int)<10:=by omega
    change Hid _ at hJe;clear hcell hkk
    gi_wp2
    go_end0
    exact⟨⟨_,rfl⟩,.inl hJe.out⟩
theorem Ew(B:List Int):qL B=uI 0 B:=by
 have key: ∀(l:List Int) (k:Nat),k<=10->uI k l=(List.range (min l.length (10-k))).map fun i=>(7*(k+i),l.getD i 0):=by
  intro l;induction l with
  |nil=>intro k _;simp[uI]
  |cons c r ih=>
   intro k hk;unfold uI;by_cases h:k<10
   ·rw[if_pos h,ih (k+1) (by omega)]
    have:min (c::r).length (10-k)=min r.length (10-(k+1))+1:=by simp only[List.length_cons];omega
    rw[this,List.range_succ_eq_map];simp[List.map_map,Function.comp_def,Nat.add_assoc,Nat.add_comm 1]
   ·rw[if_neg h]
    obtain rfl:k=10:=by omega
    simp
 rw[key B 0 (by omega)];simp[qL]
def tV(n0 Bx:Nat)(W W':World):Prop:=Below n0 W W'/\ ∀o,W.heap[Bx]?=some o->o.isCells=true->W'.heap[Bx]?=some o
theorem tV.refl(n0 Bx:Nat)(W:World):tV n0 Bx W W:=⟨Below.refl _ _,fun _ h _=>h⟩
theorem tV.trans{n0 Bx:Nat}{A B C:World}(h:tV n0 Bx A B)(k:tV n0 Bx B C):tV n0 Bx A C:=⟨h.1.trans k.1,fun o h1 h2=>k.2 o (h.2 o h1 h2) h2⟩
theorem Qs(n:Nat)(hn:1<=n)(n0 Bx:Nat)(va:Option Addr)(c:Nat)(B:List Int)(w:World)(h0:n0<=w.heap.size)(hBx:Bx<w.heap.size)(hc:w.heap[Bx]?=some (.cells #[.slice va B.length c] 23 (0,0)))(hR: ∀W',Below n0 w W'->aG bL W' (.slice va B.length c) B)(hl:B.length<=140737488351232):
  SeqStopsK Fence.wide n Tryz.prog 332 #[.pointer (some ⟨Bx,0,none⟩)] (fun x:Nat×Int=>#[.int .i64 (x.1:Int),.int .u8 x.2]) (tV n0 Bx) (fun ys=>ys=qL B) (fun pre=> ∃k,pre=(qL B).take k) (min B.length 10) w:=
 fun l J Jx W hW hJ _ hY hJ0=>by
  have hcW:W.heap[Bx]?=some (.cells #[.slice va B.length c] 23 (0,0)):=(hW.block Bx hBx).trans hc;exact(Qr n hn l Bx (tV n0 Bx) va c B J Jx hY W (cell_of_row _ _ 0 _ _ _ hcW) (tV.refl _ _ _) (fun _ _ _ h k=>h.trans k) (fun W' hb=>⟨cell_of_row _ _ 0 _ _ _ (hb.2 _ hcW rfl),hR W' ((hW.mono h0).trans hb.1)⟩) hl hJ0).mono fun e W' ⟨h1,h2⟩=>⟨h1,h2.elim (fun h=>.inl ⟨_,rfl,h⟩) .inr⟩
theorem Qt(a:Option Addr)(n c:Nat)(W:World):Calls Tryz.prog 317 #[.slice a n c] W fun e w'=>e=.returned (.func (.func 332) #[] #[.pointer (some ⟨W.heap.size,0,none⟩)])/\w'=W.alloc (.cells #[.slice a n c] 23):=by
 go_enter Tryz.func317,Tryz.ntmps317
 go_wp2_with fail
 go_ret
 exact⟨rfl,rfl⟩
end Go.Proofs.YtedcakchekaemaaGreatDoor
