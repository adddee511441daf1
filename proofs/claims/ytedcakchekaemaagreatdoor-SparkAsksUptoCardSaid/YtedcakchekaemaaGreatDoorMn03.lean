import Derived.Test.YtedcakchekaemaaGreatDoorMn01
set_option maxRecDepth 100000
set_option maxHeartbeats 16000000
set_option linter.all false
namespace Go.Proofs.YtedcakchekaemaaGreatDoor
class Kd where
 kd:Int->Int
variable [Kd]
def ak(s:ByteArray):List Int:=s.data.toList.map fun b=>(b.toNat:Int)
theorem dM(s:ByteArray):(ak s).length=s.size:=by simp[ak]
def ol(B:List Int):Prop:= ∀x∈B,0<=x/\x<256
theorem bN(s:ByteArray):ol (ak s):=by
 intro x hx;obtain⟨b,_,rfl⟩:=List.mem_map.1 hx;have:=b.toNat_lt;omega
theorem ol.drop{B:List Int}(h:ol B)(i:Nat):ol (B.drop i):=fun x hx=>h x (List.mem_of_mem_drop hx)
theorem ol.take{B:List Int}(h:ol B)(i:Nat):ol (B.take i):=fun x hx=>h x (List.mem_of_mem_take hx)
theorem yS{B:List Int}(h:ol B):ak (strOfNums B)=B:=by
 unfold ak strOfNums;simp only[List.map_map]
 conv=>rhs;rw[<-List.map_id B]
 apply List.map_congr_left;intro x hx;obtain⟨h0,h1⟩:=h x hx;simp only[Function.comp_apply,id,UInt8.toNat_ofNat'];omega
theorem xB(B:List Int):(strOfNums B).size=B.length:=by simp[strOfNums,ByteArray.size]
theorem wo{m n:Nat}(h:m<=n):(2:Int)^m<=2^n:=by
 have:((2^m:Nat):Int)<=((2^n:Nat):Int):=Int.ofNat_le.2 (Nat.pow_le_pow_right (by omega) h);simpa using this
def qY:List Int->Nat->Int->Option (Int×Nat)
 | [],_,_=>none
 |c::r,k,v=>if k=9/\1<c then none else if c<128 then some (v+c%128*2^(7*k),k+1)else if 9<=k then none else qY r (k+1) (v+c%128*2^(7*k))
def nD(B:List Int)(i:Nat):Option (Int×Nat):=(qY (B.drop i) 0 0).map fun p=>(p.1,i+p.2)
theorem IQ: ∀(l:List Int) (k:Nat) (v:Int),ol l->k<=9->0<=v->v<2^(7*k)-> ∀x n,qY l k v=some (x,n)->k<n/\n<=k+l.length/\0<=x/\x<=18446744073709551615
 | [],_,_,_,_,_,_,_,_,h=>by simp[qY]at h
 |c::r,k,v,hB,hk,h0,h1,x,n,h=>by
  obtain⟨c0,c1⟩:=hB c (by simp);have hp:(0:Int)<2^(7*k):=Int.pow_pos (by omega);have hm0:0<=c%128:=by omega
  have hm1:c%128<=127:=by omega
  have hpr:c%128*2^(7*k)<=127*2^(7*k):=Int.mul_le_mul_of_nonneg_right hm1 (Int.le_of_lt hp);have QF:0<=c%128*2^(7*k):=Int.mul_nonneg hm0 (Int.le_of_lt hp);unfold qY at h;by_cases h9:k=9/\1<c
  ·rw[if_pos h9]at h;cases h
  ·rw[if_neg h9]at h
   by_cases hc:c<128
   ·rw[if_pos hc]at h
    simp only[Option.some.injEq,Prod.mk.injEq]at h;obtain⟨rfl,rfl⟩:=h;refine⟨by omega,by simp only[List.length_cons];omega,by omega,?_⟩;rcases Nat.lt_or_ge k 9 with Jm|Jm
    ·have:(2:Int)^(7*k)<=2^56:=wo (by omega)
     omega
    ·obtain rfl:k=9:=by omega
     have:c<=1:=by omega
     have e:c%128=c:=by omega
     rw[e]at QF⊢;have h3:c*2^(7*9)<=1*2^(7*9):=Int.mul_le_mul_of_nonneg_right this (Int.le_of_lt hp);have h4:(2:Int)^(7*9)=9223372036854775808:=by decide
     omega
   ·rw[if_neg hc]at h
    by_cases Jm:9<=k
    ·rw[if_pos Jm]at h;cases h
    ·rw[if_neg Jm]at h
     have hlt:v+c%128*2^(7*k)<2^(7*(k+1)):=by
      have:(2:Int)^(7*(k+1))=128*2^(7*k):=by
       rw[Nat.mul_add,Int.pow_add];simp[Int.mul_comm]
      omega
     obtain⟨q1,q2,q3,q4⟩:=IQ r (k+1) _ (fun y hy=>hB y (by simp[hy])) (by omega) (by omega) hlt x n h;exact⟨by omega,by simp only[List.length_cons];omega,q3,q4⟩
theorem jX{B:List Int}(hB:ol B){i:Nat}(hi:i<=B.length){x:Int}{n:Nat}(h:nD B i=some (x,n)):i<n/\n<=B.length/\0<=x/\x<=18446744073709551615:=by
 unfold nD at h;obtain⟨⟨y,m⟩,h1,h2⟩:=Option.map_eq_some_iff.1 h;simp only[Prod.mk.injEq]at h2;obtain⟨rfl,rfl⟩:=h2;obtain⟨q1,q2,q3,q4⟩:=IQ _ 0 0 (hB.drop i) (by omega) (by omega) (by simp) _ _ h1;rw[List.length_drop]at q2;exact⟨by omega,by omega,q3,q4⟩
def lu:List Int->Int
 | []=>0
 |c::r=>c+256*lu r
def uO(n:Nat)(B:List Int)(i:Nat):Option (Int×Nat):=if i+n<=B.length then some (lu ((B.drop i).take n),i+n)else none
structure bG where
 num:Int
 kind:Int
 val:Int
 text:ByteArray
structure tu where
 at':Nat
 op:List Int
 out:List bG
def si(B:List Int)(i:Nat)(num kind:Int):Option (bG×Nat):=
 if kind=0 then(nD B i).map fun p=>(⟨num,kind,p.1,⟨#[]⟩⟩,p.2)
 else if kind=2 then(nD B i).bind fun p=>if(B.length:Int)-p.2<p.1 then none else some (⟨num,kind,0,strOfNums ((B.drop p.2).take p.1.toNat)⟩,p.2+p.1.toNat)
 else if kind=1 then(uO 8 B i).map fun p=>(⟨num,kind,p.1,⟨#[]⟩⟩,p.2)
 else if kind=5 then(uO 4 B i).map fun p=>(⟨num,kind,p.1,⟨#[]⟩⟩,p.2)
 else none
def iK(B:List Int)(s:tu)(num kind:Int):Option tu:=
 (si B s.at' num kind).bind fun p=>if 0<s.op.length then some ⟨p.2,s.op,s.out⟩else if 256<=s.out.length then none else some ⟨p.2,s.op,s.out++[p.1]⟩
def rE(B:List Int)(s:tu):Option tu:=
 (nD B s.at').bind fun p=>
  if p.1/8<1\/536870912<=p.1/8 then none
  else if p.1%8=3 then(if 8<=s.op.length then none else some ⟨p.2,s.op++[p.1/8],s.out⟩)
  else if p.1%8=4 then(if s.op.getLast?=some (p.1/8)then some ⟨p.2,s.op.dropLast,s.out⟩else none)
  else iK B ⟨p.2,s.op,s.out⟩ (p.1/8) (p.1%8)
def rF(B:List Int):Nat->tu->Option (List bG)
 |0,s=>if s.op=[]then some s.out else none
 |n+1,s=>if s.at'<B.length then(rE B s).bind (rF B n)else if s.op=[]then some s.out else none
def sj(B:List Int):Option (List bG):=if 4096<B.length then none else rF B B.length ⟨0,[],[]⟩
def aX(l:List bG)(num:Int):List bG:=l.filter fun f=>f.num==num
structure PV where
 k:Int
 n:Int
 s:ByteArray
def PV.zero:PV:=⟨0,0,⟨#[]⟩⟩
def IU(k:Int):Int:=Kd.kd k
def N8(k n:Int):Bool:=decide ((k=1\/k=3)/\4294967296<=n\/k=5/\1<n)
def iq(num base:Int)(raw:Bool):Int:=if num-base+1<1\/7<num-base+1\/(num-base+1=7/\raw=false)then 0 else num-base+1
def iO(base:Int)(raw:Bool)(v:PV)(f:bG):Option PV:=
 if iq f.num base raw=0 then some v
 else if f.kind≠IU (iq f.num base raw)then none
 else if N8 (iq f.num base raw) f.val=true then none
 else some ⟨iq f.num base raw,f.val,f.text⟩
def MU(base:Int)(raw:Bool)(l:List bG):Option PV:=l.foldlM (iO base raw) PV.zero
def gH(f:bG):Bool:=
 decide (8<f.num)||(if f.num=1 then f.kind==0&&decide (f.val<=1)else if f.num=3\/f.num=4 then f.kind==0 else f.kind==2)
def AO(B:List Int):Bool:=match sj B with
 |none=>false
 |some l=>l.all gH
def bU(x:Bool×ByteArray)(f:bG):Option (Bool×ByteArray):=
 if f.num=1 then(if f.kind=0/\f.val<=4294967295 then some x else none)
 else if f.num=2 then(if f.kind=0/\f.val<=1 then some x else none)
 else if f.num=9 then(if f.kind=2 then some (true,f.text)else none)
 else if 3<=f.num/\f.num<=8 then(iO 3 false PV.zero f).map fun _=>(false,x.2)
 else some x
def tC(l:List bG):Bool:=l.all (fun f=> !((f.num==1||f.num==2)&&f.kind !=2))&&decide ((aX l 1).length<=32)&&decide ((aX l 2).length<=32)&&decide ((aX l 1).length=(aX l 2).length)
def xC(g:List Int->Bool)(B:List Int):Bool:=match sj B with
 |none=>false
 |some l=>match l.foldlM bU (false,⟨#[]⟩)with
  |none=>false
  |some x=> !x.1||g (ak x.2)
def o8:Nat->List Int->Bool
 |0,_=>false
 |n+1,B=>match sj B with
  |none=>false
  |some l=>tC l&&(aX l 2).all fun f=>xC (o8 n) (ak f.text)
def iP(f:bG):Bool:=
 if f.num=1 then f.kind==0 else if f.num=3 then f.kind==0&&decide (f.val<=4294967295)else if f.num=2\/f.num=4 then f.kind==2 else true
def pX(f:bG):Bool:=match sj (ak f.text)with
 |none=>false
 |some l=>(MU 1 false l).isSome
def Yf(kX:Nat)(f:bG):Bool:=match sj (ak f.text)with
 |none=>false
 |some l=>decide ((aX l 1).length=kX)&&(aX l 1).all (fun x=>x.kind==2)&&(aX l 1).all pX
def FM(l:List bG):Int:=((aX l 1).getLast?.map (·.val)).getD 0
def yT(B:List Int):Bool:=match sj B with
 |none=>false
 |some l=>l.all iP&&decide ((aX l 2).length<=16)&&decide ((aX l 3).length<=16)&&decide ((aX l 4).length<=32)&&decide ((aX l 2).length=(aX l 3).length)&&decide (FM l=(aX l 2).length)&&
  (aX l 4).all (Yf (aX l 2).length)
structure PM where
 name:ByteArray
 has:Bool
 al:Int
 time:Int
 ty:Int
 hist:Bool
 trans:Bool
 null:Bool
 v:PV
structure MT where
 m:PM
 meta':ByteArray
 told:Bool
 props:ByteArray
 big:ByteArray
def MT.zero:MT:=⟨⟨⟨#[]⟩,false,0,0,0,false,false,false,PV.zero⟩,⟨#[]⟩,false,⟨#[]⟩,⟨#[]⟩⟩
def bn(x:MT)(f:bG):Option MT:=
 if f.num=1 then(if f.kind=2 then some {x with m:={x.m with name:=f.text}}else none)
 else if f.num=2 then(if f.kind=0 then some {x with m:={x.m with has:=true,al:=f.val}}else none)
 else if f.num=3 then(if f.kind=0 then some {x with m:={x.m with time:=f.val}}else none)
 else if f.num=4 then(if f.kind=0/\f.val<=4294967295 then some {x with m:={x.m with ty:=f.val}}else none)
 else if f.num=5 then(if f.kind=0/\f.val<=1 then some {x with m:={x.m with hist:=f.val==1}}else none)
 else if f.num=6 then(if f.kind=0/\f.val<=1 then some {x with m:={x.m with trans:=f.val==1}}else none)
 else if f.num=7 then(if f.kind=0/\f.val<=1 then some {x with m:={x.m with null:=f.val==1}}else none)
 else if f.num=8 then(if f.kind=2 then some {x with told:=true,meta':=f.text}else none)
 else if f.num=9 then(if f.kind=2 then some {x with props:=f.text}else none)
 else if f.num=17 then(if f.kind=2 then some {x with m:={x.m with v:=⟨8,0,⟨#[]⟩⟩},big:=f.text}else none)
 else if f.num=18 then(if f.kind=2 then some {x with m:={x.m with v:=⟨9,0,⟨#[]⟩⟩},big:=f.text}else none)
 else(iO 10 true PV.zero f).map fun v=>if v.k=0 then x else{x with m:={x.m with v:=v}}
def oV(f:bG):Bool:=if f.num=1 then f.kind==2 else if f.num=2 then f.kind==0&&decide (f.val<=4294967295)else true
def vV(B:List Int):Bool:=match sj B with
 |none=>false
 |some l=>l.all oV&&(MU 3 false (l.filter fun f=> !(f.num==1||f.num==2))).isSome
def jK(f:bG):Bool:=if 1<=f.num/\f.num<=4 then f.kind==2 else if f.num=5 then f.kind==0&&decide (f.val<=1)else true
def AP(g:List Int->Bool)(B:List Int):Bool:=match sj B with
 |none=>false
 |some l=>l.all jK&&decide ((aX l 2).length<=64)&&decide ((aX l 3).length<=32)&&(aX l 2).all (fun f=>g (ak f.text))&&(aX l 3).all fun f=>vV (ak f.text)
def Yg(g:List Int->Bool)(x:MT):Bool:=
 (!x.told||AO (ak x.meta'))&&o8 8 (ak x.props)&&(if x.m.v.k=8 then yT (ak x.big)else if x.m.v.k=9 then AP g (ak x.big)else true)
def MV:Nat->List Int->Option PM
 |0,_=>none
 |n+1,B=>match sj B with
  |none=>none
  |some l=>match l.foldlM bn MT.zero with
   |none=>none
   |some x=>if Yg (fun C=>(MV n C).isSome) x=true then some x.m else none
structure uP where
 t:Int
 h:Bool
 s:Int
 u:ByteArray
 b:ByteArray
 M:List PM
def iQ(f:bG):Bool:=if f.num=1\/f.num=3 then f.kind==0 else if f.num=2\/f.num=4\/f.num=5 then f.kind==2 else true
def fJ(p:uP)(f:bG):uP:=
 if f.num=1 then{p with t:=f.val}else if f.num=3 then{p with h:=true,s:=f.val}else if f.num=4 then{p with u:=f.text}else if f.num=5 then{p with b:=f.text}else p
def rG:List bG->Option (List PM)
 | []=>some []
 |f::r=>(MV 8 (ak f.text)).bind fun m=>(rG r).map fun l=>m::l
def N9(B:List Int):Option uP:=match sj B with
 |none=>none
 |some l=>if l.all iQ=false then none else if 64<(aX l 2).length then none else(rG (aX l 2)).map fun M=>{l.foldl fJ ⟨0,false,0,⟨#[]⟩,⟨#[]⟩,[]⟩with M:=M}
end Go.Proofs.YtedcakchekaemaaGreatDoor
namespace Go.Proofs.YtedcakchekaemaaGreatDoor
variable [Kd]
theorem Oa(a b k:Nat)(h:a<2^k):a|||(b*2^k)=a+b*2^k:=by
 have e:=Nat.shiftLeft_add_eq_or_of_lt h b;rw[Nat.shiftLeft_eq]at e;rw[Nat.or_comm,<-e,Nat.add_comm]
theorem CU{v c:Int}{k:Nat}(h0:0<=v)(h1:v<2^k)(c0:0<=c)(hs:v+c*2^k<=18446744073709551615):Go.bits .or .u64 v (c*2^k)=v+c*2^k:=by
 obtain⟨a,rfl⟩:=Int.eq_ofNat_of_zero_le h0;obtain⟨b,rfl⟩:=Int.eq_ofNat_of_zero_le c0;have hp:((2^k:Nat):Int)=(2:Int)^k:=by simp
 have e:((b:Int)*2^k)=((b*2^k:Nat):Int):=by rw[Int.natCast_mul,hp]
 have h1':a<2^k:=by rw[<-hp]at h1;omega
 rw[e]at hs⊢;rw[bits_or_u64_nat a (b*2^k) (by omega) (by omega),Oa a b k h1'];omega
theorem vW(a b:Nat)(ha:a<4294967296)(hb:b<4294967296):
  bits .or .u32 (a:Int) (b:Int)=((a|||b:Nat):Int):=by
 have hx:a|||b<2^32:=Nat.or_lt_two_pow (by omega) (by omega);have h1:(BitVec.ofInt 32 (a:Int)).toNat=a:=by
  rw[BitVec.ofInt_natCast,BitVec.toNat_ofNat];exact Nat.mod_eq_of_lt (by omega)
 have h2:(BitVec.ofInt 32 (b:Int)).toNat=b:=by
  rw[BitVec.ofInt_natCast,BitVec.toNat_ofNat];exact Nat.mod_eq_of_lt (by omega)
 show IntKind.u32.wrap ((BitVec.ofInt 32 (a:Int)|||BitVec.ofInt 32 (b:Int)).toNat:Int)=_;rw[BitVec.toNat_or,h1,h2,IntKind.wrap_u32];omega
theorem Ob{v c:Int}{k:Nat}(h0:0<=v)(h1:v<2^k)(c0:0<=c)(hs:v+c*2^k<=4294967295):Go.bits .or .u32 v (c*2^k)=v+c*2^k:=by
 obtain⟨a,rfl⟩:=Int.eq_ofNat_of_zero_le h0;obtain⟨b,rfl⟩:=Int.eq_ofNat_of_zero_le c0;have hp:((2^k:Nat):Int)=(2:Int)^k:=by simp
 have e:((b:Int)*2^k)=((b*2^k:Nat):Int):=by rw[Int.natCast_mul,hp]
 have h1':a<2^k:=by rw[<-hp]at h1;omega
 rw[e]at hs⊢;rw[vW a (b*2^k) (by omega) (by omega),Oa a b k h1'];omega
theorem FN: ∀n:Fin 256,Go.bits .and .u8 ((n.val:Nat):Int) 127=((n.val:Nat):Int)%128:=by decide+kernel
theorem VE{c:Int}(h0:0<=c)(h1:c<256):Go.bits .and .u8 c 127=c%128:=by
 obtain⟨n,rfl⟩:=Int.eq_ofNat_of_zero_le h0;exact FN ⟨n,by omega⟩
def wz:List (Nat×Int)->Int->Nat->Int×Nat×Bool
 | [],v,n=>(v,n,false)
 |x::r,v,n=>if n+1=10/\1<x.2 then(v,n+1,false)
  else if x.2<128 then(Go.bits .or .u64 v (IntKind.u64.wrap (IntKind.u64.wrap (Go.bits .and .u8 x.2 127)*2^min x.1 64)),n+1,true)
  else wz r (Go.bits .or .u64 v (IntKind.u64.wrap (IntKind.u64.wrap (Go.bits .and .u8 x.2 127)*2^min x.1 64))) (n+1)
def su:Nat->List Int->List (Nat×Int)
 |_,[]=>[]
 |k,c::r=>if k<10 then(7*k,c)::su (k+1) r else[]
theorem Oc{v c:Int}{k:Nat}(c0:0<=c)(c1:c<256)(hk:k<=9)(h0:0<=v)(h1:v<2^(7*k))(h9: ¬(k+1=10/\1<c)):
  Go.bits .or .u64 v (IntKind.u64.wrap (IntKind.u64.wrap (Go.bits .and .u8 c 127)*2^min (7*k) 64))=v+c%128*2^(7*k)/\0<=v+c%128*2^(7*k)/\v+c%128*2^(7*k)<2^(7*(k+1)):=by
 have hp:(0:Int)<2^(7*k):=Int.pow_pos (by omega);have hm0:0<=c%128:=by omega
 have hm1:c%128<=127:=by omega
 have hpr:c%128*2^(7*k)<=127*2^(7*k):=Int.mul_le_mul_of_nonneg_right hm1 (Int.le_of_lt hp);have QF:0<=c%128*2^(7*k):=Int.mul_nonneg hm0 (Int.le_of_lt hp);have hq:(2:Int)^(7*(k+1))=128*2^(7*k):=by
  rw[Nat.mul_add,Int.pow_add];simp[Int.mul_comm]
 have hs:v+c%128*2^(7*k)<=18446744073709551615:=by
  rcases Nat.lt_or_ge k 9 with Jm|Jm
  ·have:(2:Int)^(7*k)<=2^56:=wo (by omega)
   omega
  ·obtain rfl:k=9:=by omega
   have:c<=1:=by omega
   have e:c%128=c:=by omega
   rw[e]at QF⊢;have h3:c*2^(7*9)<=1*2^(7*9):=Int.mul_le_mul_of_nonneg_right this (Int.le_of_lt hp);have h4:(2:Int)^(7*9)=9223372036854775808:=by decide
   omega
 refine⟨?_,by omega,by omega⟩;rw[VE c0 c1,Nat.min_eq_left (by omega)];have e1:IntKind.u64.wrap (c%128)=c%128:=by rw[IntKind.wrap_u64];omega
 rw[e1];have e2:IntKind.u64.wrap (c%128*2^(7*k))=c%128*2^(7*k):=by rw[IntKind.wrap_u64];omega
 rw[e2];exact CU h0 h1 hm0 hs
theorem AQ: ∀(l:List Int) (k:Nat) (v:Int),ol l->k<=9->0<=v->v<2^(7*k)->
  match qY l k v with
  |some (x,n)=>wz (su k l) v k=(x,n,true)
  |none=> ∃x n,wz (su k l) v k=(x,n,false)
 | [],k,v,_,_,_,_=>by simp[qY,su,wz]
 |c::r,k,v,hB,hk,h0,h1=>by
  obtain⟨c0,c1⟩:=hB c (by simp);have hs:su k (c::r)=(7*k,c)::su (k+1) r:=by simp[su];omega
  rw[hs];by_cases h9:k=9/\1<c
  ·have e1:qY (c::r) k v=none:=by simp only[qY];rw[if_pos h9]
   have e2:wz ((7*k,c)::su (k+1) r) v k=(v,k+1,false):=by simp only[wz];rw[if_pos (by omega)]
   rw[e1,e2];exact⟨v,k+1,rfl⟩
  ·have h9': ¬(k+1=10/\1<c):=by omega
   obtain⟨e,e0,e1⟩:=Oc c0 c1 hk h0 h1 h9';by_cases hc:c<128
   ·have e1:qY (c::r) k v=some (v+c%128*2^(7*k),k+1):=by simp only[qY];rw[if_neg h9,if_pos hc]
    have e2:wz ((7*k,c)::su (k+1) r) v k=(v+c%128*2^(7*k),k+1,true):=by simp only[wz];rw[if_neg h9',if_pos hc,e]
    rw[e1,e2]
   ·have e1':qY (c::r) k v=qY r (k+1) (v+c%128*2^(7*k)):=by simp only[qY];rw[if_neg h9,if_neg hc,if_neg (by omega)]
    have e2:wz ((7*k,c)::su (k+1) r) v k=wz (su (k+1) r) (v+c%128*2^(7*k)) (k+1):=by simp only[wz];rw[if_neg h9',if_neg hc,e]
    rw[e1',e2];exact AQ r (k+1) _ (fun y hy=>hB y (by simp[hy])) (by omega) e0 e1
theorem uQ: ∀(l:List Int) (c:Int),lu (l++[c])=lu l+c*2^(8*l.length)
 | [],c=>by simp[lu]
 |x::r,c=>by
  simp only[List.cons_append,lu,List.length_cons];rw[uQ r c];have hq:(2:Int)^(8*(r.length+1))=256*2^(8*r.length):=by
   rw[Nat.mul_add,Int.pow_add];simp[Int.mul_comm]
  rw[hq,Int.mul_add,<-Int.mul_assoc,<-Int.mul_assoc,Int.mul_comm 256 c];omega
theorem jv: ∀(l:List Int),ol l->0<=lu l/\lu l<2^(8*l.length)
 | [],_=>by simp[lu]
 |x::r,h=>by
  obtain⟨x0,x1⟩:=h x (by simp);obtain⟨r0,r1⟩:=jv r (fun y hy=>h y (by simp[hy]));have hq:(2:Int)^(8*(r.length+1))=256*2^(8*r.length):=by
   rw[Nat.mul_add,Int.pow_add];simp[Int.mul_comm]
  simp only[lu,List.length_cons];omega
end Go.Proofs.YtedcakchekaemaaGreatDoor
namespace Go.Proofs.YtedcakchekaemaaGreatDoor
open Go.RowKit
section
variable {κ : Type} {enc : κ → Value}
theorem cu.size_eq{l:List (κ×Value)}{es:Array MapEntry}(hl:es.toList.map (fun e=>(e.key,e.val))=l.map (fun p=>(enc p.1,p.2))):es.size=l.length:=by
 have:=congrArg List.length hl;simpa using this
theorem cu.nodup{P:Program}{kt:TypeId}[BEq κ]{w:World}{m:Nat}{l:List (κ×Value)}(h:cu enc w m l)(_K:dV P kt enc):(l.map (·.1)).Nodup:=by
 obtain⟨es,clock,hb,hl,hst⟩:=h;have h1:=hst.2.2;have h2:es.toList.map (·.key)=l.map (fun p=>enc p.1):=by
  have:=congrArg (List.map Prod.fst) hl;simpa[List.map_map,Function.comp_def]using this
 rw[h2]at h1;have h3:(l.map (fun p=>enc p.1))=(l.map (·.1)).map enc:=by simp[List.map_map,Function.comp_def]
 rw[h3]at h1;exact(List.pairwise_map.1 h1).imp fun hne e=>hne (by rw[e])
variable {P : Program} {kt : TypeId}
theorem cu.clear{w:World}{m:Nat}{l:List (κ×Value)}(h:cu enc w m l){t e:TypeId}(ht:P.underlying t=some (.map kt e))(ty:TypeId):
  ∃w1,(Builtin.clear_ #[t] ty #[.map (some m)]).run P w=.ok (.tuple #[]) w1/\cu enc w1 m []/\ai [m] w w1/\w1.heap.size=w.heap.size:=by
 obtain⟨es,clock,hb,hl,hst⟩:=h;have hlt:=aj hb;refine⟨{w with heap:=w.heap.setIfInBounds m (.map #[] clock)},?_,⟨#[],clock,?_,rfl,MapKept.stamped_empty _⟩,(ai.refl _ _).setObj (by simp) _,by simp⟩
 ·simp[Builtin.clear_,run_underlying ht,MapKept.run_getObj_map hb,MapKept.run_setObj_map _ hb,Result.andThen]
 ·show(w.heap.setIfInBounds m _)[m]?=_
  simp[hlt]
def iZ(enc:κ->Value)(w:World)(r m:Nat)(l rem:List (κ×Value)):Prop:=
 r≠m/\ ∃es clock since seen c0,w.heap[r]?=some (.mapIter (some m) since seen c0)/\w.heap[m]?=some (.map es clock)/\es.toList.map (fun e=>(e.key,e.val))=l.map (fun p=>(enc p.1,p.2))/\MapKept.Stamped es clock/\
  (∀x∈es.toList,x.born<since)/\since<=c0/\since<=clock/\(leftOf es seen).toList.map (fun e=>(e.key,e.val))=rem.map (fun p=>(enc p.1,p.2))
theorem iZ.map{w:World}{r m:Nat}{l rem:List (κ×Value)}(h:iZ enc w r m l rem):cu enc w m l:=by
 obtain⟨_,es,clock,since,seen,c0,hr,hm,hl,hst,_⟩:=h;exact⟨es,clock,hm,hl,hst⟩
theorem iZ.own{S:List Nat}{w w':World}{r m:Nat}{l rem:List (κ×Value)}(h:iZ enc w r m l rem)(ho:ai S w w')(hr:r∉S)(hm:m∉S):iZ enc w' r m l rem:=by
 obtain⟨hne,es,clock,since,seen,c0,h1,h2,h3⟩:=h;exact⟨hne,es,clock,since,seen,c0,ho.heap h1 hr,ho.heap h2 hm,h3⟩
theorem cu.range{w:World}{m:Nat}{l:List (κ×Value)}(h:cu enc w m l){t e:TypeId}(ht:P.underlying t=some (.map kt e)):
  ∃w1,(Instr.range t (.map (some m))).run P w=.ok (.pointer (some ⟨w.heap.size,0,none⟩)) w1/\iZ enc w1 w.heap.size m l l/\ai [] w w1/\w1.heap.size=w.heap.size+1:=by
 obtain⟨es,clock,hb,hl,hst⟩:=h;have hlt:=aj hb;refine⟨w.alloc (.mapIter (some m) clock #[] clock),?_,⟨by omega,es,clock,clock,#[],clock,heap_alloc_new _ _,?_,hl,hst,hst.1,Nat.le_refl _,Nat.le_refl _,?_⟩,(ai.refl _ _).alloc _,by simp⟩
 ·simp[Instr.range,run_underlying ht,MapKept.run_getObj_map hb,newObj,Sem.run,Result.andThen]
 ·rw[Below.heap_alloc _ _ _ hlt];exact hb
 ·have:leftOf es #[]=es:=by unfold leftOf;simp
  rw[this,hl]
theorem iZ.next{w:World}{r m:Nat}{l rem:List (κ×Value)}(h:iZ enc w r m l rem)(ty:TypeId):
  (rem=[]/\(Instr.next (.pointer (some ⟨r,0,none⟩)) false ty).run P w=.ok (.tuple #[.bool false]) w)\/
  ∃(r1 r2:List (κ×Value)) (p:κ×Value) (w1:World),rem=r1++p::r2/\(Instr.next (.pointer (some ⟨r,0,none⟩)) false ty).run P w=.ok (.tuple #[.bool true,enc p.1,p.2]) w1/\
   iZ enc w1 r m l (r1++r2)/\ai [r] w w1/\w1.heap.size=w.heap.size/\(Instr.entry (.pointer (some ⟨r,0,none⟩))).run P w1=.ok (.tuple #[enc p.1,p.2]) w1:=by
 obtain⟨hne,es,clock,since,seen,c0,hr,hm,hl,hst,hold,hsc,hsk,hleft⟩:=h;rcases run_next_at (P:=P) w ty r m since c0 seen es clock hr hm hold hsc with⟨h0,hrun⟩|⟨e,he,w1,hw1,hrun⟩
 ·left
  refine⟨?_,hrun⟩;have:=congrArg List.length hleft;simp only[List.length_map,Array.length_toList,h0]at this;exact List.length_eq_zero_iff.1 this.symm
 ·right
  obtain⟨s1,s2,hs⟩:=List.append_of_mem he;rw[hs]at hleft;simp only[List.map_append,List.map_cons]at hleft;obtain⟨r1,MB,mQ,h1,h2⟩:=List.map_eq_append_iff.1 hleft.symm;obtain⟨p,r2,h12,hp,h3⟩:=List.map_eq_cons_iff.1 h2;have hk:enc p.1=e.key:=(Prod.mk.inj hp).1;have hv:p.2=e.val:=(Prod.mk.inj hp).2;have hee:e∈es.toList:=by
   have:e∈leftOf es seen:=by simpa using he
   unfold leftOf at this;simp at this;simpa using this.1
  have hrl:r<w1.heap.size:=by rcases hw1 with rfl|rfl<;>exact aj hr
  have hm1:w1.heap[m]?=some (.map es clock):=by rcases hw1 with rfl|rfl<;>exact hm
  have aH:ai [r] w w1:=by rcases hw1 with rfl|rfl;exact ai.refl _ _;exact(ai.refl _ _).drew
  have hsz:w1.heap.size=w.heap.size:=by rcases hw1 with rfl|rfl<;>rfl
  have hr2:(ChangeMaps.setBlock w1 r (.mapIter (some m) since (seen.push e.born) clock)).heap[r]?=some (.mapIter (some m) since (seen.push e.born) clock):=by
   show(w1.heap.setIfInBounds r _)[r]?=_;simp[hrl]
  have hm2:(ChangeMaps.setBlock w1 r (.mapIter (some m) since (seen.push e.born) clock)).heap[m]?=some (.map es clock):=by
   show(w1.heap.setIfInBounds r _)[m]?=_;rw[Array.getElem?_setIfInBounds_ne hne];exact hm1
  refine⟨r1,r2,p,ChangeMaps.setBlock w1 r (.mapIter (some m) since (seen.push e.born) clock),by rw[mQ,h12],by rw[hk,hv];exact hrun,?_,aH.trans ((ai.refl [r] w1).setObj (by simp) _),by simpa[ChangeMaps.setBlock]using hsz,?_⟩
  ·refine⟨hne,es,clock,since,seen.push e.born,clock,hr2,hm2,hl,hst,hold,hsk,hsk,?_⟩
   have hnb: ∀x∈s1++s2,x.born≠e.born:=by
    have hn:((leftOf es seen).toList.map (·.born)).Nodup:=by
     unfold leftOf;rw[Array.toList_filter];exact(List.Sublist.map _ List.filter_sublist).nodup hst.2.1
    rw[hs]at hn;simp only[List.map_append,List.map_cons]at hn;intro x hx heq;have hn2:=(List.perm_middle.nodup_iff).1 hn;rw[List.nodup_cons]at hn2;exact hn2.1 (by rw[<-heq,<-List.map_append];exact List.mem_map_of_mem hx)
   have hlf:(leftOf es (seen.push e.born)).toList=s1++s2:=by
    have h1:(leftOf es (seen.push e.born)).toList=(leftOf es seen).toList.filter (fun x=> !(x.born==e.born)):=by
     unfold leftOf;rw[Array.toList_filter,Array.toList_filter,List.filter_filter]
     congr 1;funext x
     rw[Bool.eq_iff_iff];simp[and_comm]
    rw[h1,hs,List.filter_append,List.filter_cons];have h2: ∀q:List MapEntry,(∀x∈q,x.born≠e.born)->q.filter (fun x=> !(x.born==e.born))=q:=fun q hq=>List.filter_eq_self.2 fun x hx=>by simpa using hq x hx
    rw[h2 s1 (fun x hx=>hnb x (List.mem_append_left _ hx)),h2 s2 (fun x hx=>hnb x (List.mem_append_right _ hx))];simp
   rw[hlf,List.map_append,List.map_append,h1,h3]
  ·rw[hk,hv]
   exact run_entry_at _ r m since seen es clock e hr2 hm2 hee hst.2.1
end
section
variable {P : Program} {kt : TypeId} {κ : Type} [BEq κ] [LawfulBEq κ] {enc : κ → Value}
def fD{α:Type}(l:List (κ×α))(k:κ):List (κ×α):=l.filter fun p=> !(p.1==k)
theorem iG{α:Type}(q:α->Bool): ∀(l:List α) (j:Nat),l.Pairwise (fun x y=> ¬(q x=true/\q y=true))->l.findIdx? q=some j->l.eraseIdx j=l.filter fun x=> !q x
 | [],j,_,h=>by simp at h
 |x::r,j,hp,h=>by
  obtain⟨h1,h2⟩:=List.pairwise_cons.1 hp;simp only[List.findIdx?_cons]at h;cases hx:q x with
  |true=>
   simp only[hx,if_true,Option.some.injEq]at h;subst h;have:r.filter (fun x=> !q x)=r:=List.filter_eq_self.2 fun y hy=>by
    have:=h1 y hy;simp only[hx,true_and]at this;simpa using this
   simp[hx,this]
  |false=>
   simp only[hx,Bool.false_eq_true,if_false]at h;obtain⟨i,hi,rfl⟩:=Option.map_eq_some_iff.1 h;simp[hx,iG q r i h2 hi]
theorem rA{α:Type}{l:List (κ×α)}(h:(l.map (·.1)).Nodup)(k:κ):l.Pairwise (fun x y=> ¬((k==x.1)=true/\(k==y.1)=true)):=by
 rw[List.Nodup,List.pairwise_map]at h;exact h.imp fun hne ⟨h1,h2⟩=>hne ((LawfulBEq.eq_of_beq h1).symm.trans (LawfulBEq.eq_of_beq h2))
theorem cu.delete{w:World}{m:Nat}{l:List (κ×Value)}(h:cu enc w m l)(K:dV P kt enc){t e:TypeId}(ht:P.underlying t=some (.map kt e))(k:κ)(t2 ty:TypeId):
  ∃w1,(Builtin.delete_ #[t,t2] ty #[.map (some m),enc k]).run P w=.ok (.tuple #[]) w1/\cu enc w1 m (fD l k)/\ai [m] w w1/\w1.heap.size=w.heap.size:=by
 have hnd:=h.nodup K;obtain⟨es,clock,hb,hl,hst⟩:=h;have hlt:=aj hb;have hr:=iA (w:=w) K hl k;have hset: ∀o,({w with heap:=w.heap.setIfInBounds m o}:World).heap[m]?=some o:=fun o=>by
  show(w.heap.setIfInBounds m o)[m]?=_;simp[hlt]
 have hfl:fD l k=l.filter fun p=> !(k==p.1):=by
  unfold fD
  congr 1;funext p
  cases h1:(k==p.1)<;>cases h2:(p.1==k)<;>simp_all
 cases hj:l.findIdx? (fun p=>k==p.1)with
 |none=>
  rw[hj]at hr;refine⟨{w with heap:=w.heap.setIfInBounds m (.map es clock)},?_,⟨_,_,hset _,?_,hst⟩,(ai.refl _ _).setObj (by simp) _,by simp⟩
  ·simp[Builtin.delete_,run_underlying ht,MapKept.run_getObj_map hb,MapKept.run_setObj_map _ hb,K.check,hr,Result.andThen]
  ·have:l.filter (fun p=> !(k==p.1))=l:=List.filter_eq_self.2 fun p hp=>by simpa using List.findIdx?_eq_none_iff.1 hj p hp
   rw[hfl,this,hl]
 |some j=>
  obtain⟨hjl,hjk,_⟩:=List.findIdx?_eq_some_iff_getElem.1 hj;have hjp:l[j]?=some l[j]:=List.getElem?_eq_getElem hjl;have hlen:es.size=l.length:=by have:=congrArg List.length hl;simpa using this
  rw[hj]at hr;simp only[Option.bind_some,hjp,Option.map_some]at hr;refine⟨{w with heap:=w.heap.setIfInBounds m (.map (es.eraseIdxIfInBounds j) clock)},?_,⟨_,_,hset _,?_,MapKept.stamped_erase hst j⟩,(ai.refl _ _).setObj (by simp) _,by simp⟩
  ·simp[Builtin.delete_,run_underlying ht,MapKept.run_getObj_map hb,MapKept.run_setObj_map _ hb,K.check,hr,Result.andThen]
  ·rw[hfl,<-iG _ l j (rA hnd k) hj]
   have:(es.eraseIdxIfInBounds j).toList=es.toList.eraseIdx j:=by
    unfold Array.eraseIdxIfInBounds;rw[dif_pos (by omega)];simp
   rw[this,ChangeMaps.map_eraseIdx,hl,<-ChangeMaps.map_eraseIdx]
theorem iZ.delete{w:World}{r m:Nat}{l rem:List (κ×Value)}(h:iZ enc w r m l rem)(K:dV P kt enc){t e:TypeId}(ht:P.underlying t=some (.map kt e))(k:κ)(t2 ty:TypeId)(hk: ∀p∈rem,p.1≠k):
  ∃w1,(Builtin.delete_ #[t,t2] ty #[.map (some m),enc k]).run P w=.ok (.tuple #[]) w1/\iZ enc w1 r m (fD l k) rem/\ai [m] w w1/\w1.heap.size=w.heap.size:=by
 have hM:=h.map;have hnd:=hM.nodup K;obtain⟨hne,es,clock,since,seen,c0,hr,hb,hl,hst,hold,hsc,hsk,hleft⟩:=h;have hlt:=aj hb;have hrn:=iA (w:=w) K hl k;have hset: ∀o,({w with heap:=w.heap.setIfInBounds m o}:World).heap[m]?=some o:=fun o=>by
  show(w.heap.setIfInBounds m o)[m]?=_;simp[hlt]
 have Vk: ∀o,({w with heap:=w.heap.setIfInBounds m o}:World).heap[r]?=some (.mapIter (some m) since seen c0):=fun o=>by
  show(w.heap.setIfInBounds m o)[r]?=_;rw[Array.getElem?_setIfInBounds_ne (Ne.symm hne)];exact hr
 have hfl:fD l k=l.filter fun p=> !(k==p.1):=by
  unfold fD
  congr 1;funext p
  cases h1:(k==p.1)<;>cases h2:(p.1==k)<;>simp_all
 cases hj:l.findIdx? (fun p=>k==p.1)with
 |none=>
  rw[hj]at hrn;refine⟨{w with heap:=w.heap.setIfInBounds m (.map es clock)},?_,⟨hne,es,clock,since,seen,c0,Vk _,hset _,?_,hst,hold,hsc,hsk,hleft⟩,(ai.refl _ _).setObj (by simp) _,by simp⟩
  ·simp[Builtin.delete_,run_underlying ht,MapKept.run_getObj_map hb,MapKept.run_setObj_map _ hb,K.check,hrn,Result.andThen]
  ·have:l.filter (fun p=> !(k==p.1))=l:=List.filter_eq_self.2 fun p hp=>by simpa using List.findIdx?_eq_none_iff.1 hj p hp
   rw[hfl,this,hl]
 |some j=>
  obtain⟨hjl,hjk,_⟩:=List.findIdx?_eq_some_iff_getElem.1 hj;have hjp:l[j]?=some l[j]:=List.getElem?_eq_getElem hjl;have hlen:es.size=l.length:=by have:=congrArg List.length hl;simpa using this
  have hjs:j<es.size:=by omega
  rw[hj]at hrn;simp only[Option.bind_some,hjp,Option.map_some]at hrn;have hel:(es.eraseIdxIfInBounds j).toList=es.toList.eraseIdx j:=by
   unfold Array.eraseIdxIfInBounds;rw[dif_pos (by omega)];simp
  refine⟨{w with heap:=w.heap.setIfInBounds m (.map (es.eraseIdxIfInBounds j) clock)},?_,⟨hne,_,clock,since,seen,c0,Vk _,hset _,?_,MapKept.stamped_erase hst j,?_,hsc,hsk,?_⟩,(ai.refl _ _).setObj (by simp) _,by simp⟩
  ·simp[Builtin.delete_,run_underlying ht,MapKept.run_getObj_map hb,MapKept.run_setObj_map _ hb,K.check,hrn,Result.andThen]
  ·rw[hfl,<-iG _ l j (rA hnd k) hj,hel,ChangeMaps.map_eraseIdx,hl,<-ChangeMaps.map_eraseIdx]
  ·intro x hx
   rw[hel]at hx;exact hold x (List.mem_of_mem_eraseIdx hx)
  ·rw[<-hleft]
   have hkey:es[j].key=enc k:=by
    have:=congrArg (fun q=>q[j]?) hl;simp only[List.getElem?_map,hjp,Option.map_some,Array.getElem?_toList,Array.getElem?_eq_getElem hjs,Option.some.injEq,Prod.mk.injEq]at this;rw[this.1,LawfulBEq.eq_of_beq hjk]
   have hnot:(!seen.contains es[j].born)=false:=by
    cases hc:(!seen.contains es[j].born)
    ·rfl
    ·exfalso
     have hmem:es[j]∈(leftOf es seen).toList:=by
      unfold leftOf;simp only[Array.toList_filter,List.mem_filter];exact⟨by simp,hc⟩
     have:=List.mem_map_of_mem (f:=fun e:MapEntry=>(e.key,e.val)) hmem;rw[hleft]at this;obtain⟨p,hp,he⟩:=List.mem_map.1 this;exact hk p hp (K.inj _ _ ((Prod.mk.inj he).1.trans hkey))
   have:(leftOf (es.eraseIdxIfInBounds j) seen).toList=(leftOf es seen).toList:=by
    unfold leftOf;rw[Array.toList_filter,Array.toList_filter,hel];have hsplit:es.toList=es.toList.take j++es[j]::es.toList.drop (j+1):=by
     rw[<-List.take_append_drop j es.toList]
     congr 1
     ·simp
     ·rw[List.take_append_drop,List.drop_eq_getElem_cons (by simpa using hjs)]
      simp
    rw[List.eraseIdx_eq_take_drop_succ]
    conv=>rhs;rw[hsplit]
    rw[List.filter_append,List.filter_append,List.filter_cons,hnot];simp
   rw[this]
end
section
variable {P : Program} {kt : TypeId} {κ α : Type} {ek : κ → Value} {ev : α → Value}
def BL(ev:α->Value)(l:List (κ×α)):List (κ×Value):=l.map fun p=>(p.1,ev p.2)
theorem E8(l:List (κ×α)):(BL ev l).length=l.length:=by simp[BL]
theorem Nu(l:List (κ×α)):(BL ev l).map (·.1)=l.map (·.1):=by simp[BL,List.map_map,Function.comp_def]
theorem Cg[BEq κ](l:List (κ×α))(k:κ):aS (BL ev l) k=(aS l k).map ev:=by
 unfold aS BL;rw[List.find?_map,Option.map_map,Option.map_map];rfl
theorem Nv[BEq κ](l:List (κ×α))(k:κ)(v:α):bZ (BL ev l) k (ev v)=BL ev (bZ l k v):=by
 induction l with
 |nil=>rfl
 |cons p r ih=>
  simp only[BL,List.map_cons,bZ]at ih⊢;cases h:(p.1==k)
  ·simp only[Bool.false_eq_true,if_false,List.map_cons];rw[ih]
  ·simp
theorem Ch[BEq κ](l:List (κ×α))(k:κ):fD (BL ev l) k=BL ev (fD l k):=by
 unfold fD BL;rw[List.filter_map];rfl
theorem dL[BEq κ][LawfulBEq κ](l:List (κ×α))(k:κ):aS l k=none↔ ∀p∈l,p.1≠k:=by
 unfold aS;rw[Option.map_eq_none_iff,List.find?_eq_none];simp
theorem Au[BEq κ][LawfulBEq κ](l:List (κ×α))(hn:(l.map (·.1)).Nodup){p:κ×α}(hp:p∈l):aS l p.1=some p.2:=by
 induction l with
 |nil=>simp at hp
 |cons q r ih=>
  simp only[List.map_cons,List.nodup_cons]at hn;rcases List.mem_cons.1 hp with rfl|h
  ·simp[aS]
  ·have hne:q.1≠p.1:=fun e=>hn.1 (by rw[e];exact List.mem_map_of_mem h)
   have:=ih hn.2 h;unfold aS at this⊢;rw[List.find?_cons_of_neg (by simpa using hne)];exact this
theorem Ci[BEq κ][LawfulBEq κ]{l:List (κ×α)}{k:κ}{v:α}(h:aS l k=some v):(k,v)∈l:=by
 unfold aS at h;obtain⟨p,hp,rfl⟩:=Option.map_eq_some_iff.1 h;have h1:=List.find?_some hp;have h2:=List.mem_of_find?_eq_some hp;have:p.1=k:=by simpa using h1
 subst this;exact h2
theorem qJ[BEq κ][LawfulBEq κ]{l l':List (κ×α)}(hp:l.Perm l')(hn:(l.map (·.1)).Nodup)(k:κ):aS l k=aS l' k:=by
 have hn':(l'.map (·.1)).Nodup:=(hp.map _).nodup_iff.1 hn;cases h:aS l k with
 |some v=>exact(Au l' hn' (p:=(k,v)) (hp.mem_iff.1 (Ci h))).symm
 |none=>
  symm;rw[dL]at h⊢;exact fun p hp'=>h p (hp.mem_iff.2 hp')
theorem Cj[BEq κ][LawfulBEq κ]{l:List (κ×α)}{k:κ}(h:aS l k=none)(v:α):bZ l k v=l++[(k,v)]:=by
 refine uD v ?_;rw[List.findIdx?_eq_none_iff];intro p hp;have:=(dL l k).1 h p hp;simpa using fun e=>this e.symm
theorem zx[BEq κ][LawfulBEq κ]{l:List (κ×α)}(hn:(l.map (·.1)).Nodup)(k:κ)(v:α):(bZ l k v).Perm ((k,v)::fD l k):=by
 induction l with
 |nil=>simp[bZ,fD]
 |cons p r ih=>
  simp only[List.map_cons,List.nodup_cons]at hn;unfold fD at ih⊢;by_cases h:p.1=k
  ·subst h
   have:r.filter (fun q=> !(q.1==p.1))=r:=List.filter_eq_self.2 fun q hq=>by
    have:q.1≠p.1:=fun e=>hn.1 (by rw[<-e];exact List.mem_map_of_mem hq)
    simpa using this
   simp[bZ,this]
  ·have h1:(p.1==k)=false:=by simpa using h
   simp only[bZ,h1,Bool.false_eq_true,if_false,List.filter_cons,Bool.not_false,if_true];exact((ih hn.2).cons p).trans (List.Perm.swap _ _ _)
def dG(ek:κ->Value)(ev:α->Value)(w:World)(m:Nat)(l:List (κ×α)):Prop:= ∃l',l'.Perm l/\cu ek w m (BL ev l')
theorem dG.perm{w:World}{m:Nat}{l l2:List (κ×α)}(h:dG ek ev w m l)(hp:l.Perm l2):dG ek ev w m l2:=let⟨l',h1,h2⟩:=h;⟨l',h1.trans hp,h2⟩
theorem dG.own{S:List Nat}{w w':World}{m:Nat}{l:List (κ×α)}(h:dG ek ev w m l)(ho:ai S w w')(hn:m∉S):dG ek ev w' m l:=let⟨l',h1,h2⟩:=h;⟨l',h1,h2.own ho hn⟩
theorem dG.of_heap{w w':World}{m:Nat}{l:List (κ×α)}(h:dG ek ev w m l)(he:w'.heap[m]?=w.heap[m]?):dG ek ev w' m l:=let⟨l',h1,h2⟩:=h;⟨l',h1,h2.of_heap he⟩
theorem dG.lt{w:World}{m:Nat}{l:List (κ×α)}(h:dG ek ev w m l):m<w.heap.size:=let⟨_,_,h2⟩:=h;h2.lt
theorem dG.made(w:World):dG ek ev (w.alloc (.map #[] 0)) w.heap.size ([]:List (κ×α)):=⟨[],List.Perm.refl _,cu.made w⟩
theorem dG.nodup[BEq κ]{w:World}{m:Nat}{l:List (κ×α)}(h:dG ek ev w m l)(K:dV P kt ek):(l.map (·.1)).Nodup:=by
 obtain⟨l',h1,h2⟩:=h;have:=h2.nodup K;rw[Nu]at this;exact(h1.map _).nodup_iff.1 this
theorem dG.len_run{w:World}{m:Nat}{l:List (κ×α)}(h:dG ek ev w m l){e t:TypeId}(ht:P.underlying t=some (.map kt e))(ty:TypeId):
  (Builtin.len_ #[t] ty #[.map (some m)]).run P w=.ok (.int .i64 l.length) w:=by
 obtain⟨l',h1,h2⟩:=h;have:=h2.len_run (P:=P) ht ty;rw[E8,h1.length_eq]at this;exact this
theorem dG.lookup_yes[BEq κ][LawfulBEq κ]{w:World}{m:Nat}{l:List (κ×α)}(h:dG ek ev w m l)(K:dV P kt ek){t e:TypeId}(ht:P.underlying t=some (.map kt e))(k:κ){v:α}
  (hg:aS l k=some v)(c:Bool):(Instr.lookup t (.map (some m)) (ek k) c).run P w=.ok (if c then .tuple #[ev v,.bool true]else ev v) w:=by
 have hn:=h.nodup K;obtain⟨l',h1,h2⟩:=h;exact h2.lookup_yes K ht k (by rw[Cg,qJ h1 ((h1.map _).nodup_iff.2 hn),hg];rfl) c
theorem dG.lookup_no[BEq κ][LawfulBEq κ]{w:World}{m:Nat}{l:List (κ×α)}(h:dG ek ev w m l)(K:dV P kt ek){t e:TypeId}(ht:P.underlying t=some (.map kt e))(k:κ){z:Value}
  (hz:(zeroValue e).run P w=.ok z w)(hg:aS l k=none)(c:Bool):(Instr.lookup t (.map (some m)) (ek k) c).run P w=.ok (if c then .tuple #[z,.bool false]else z) w:=by
 have hn:=h.nodup K;obtain⟨l',h1,h2⟩:=h;exact h2.lookup_no K ht k hz (by rw[Cg,qJ h1 ((h1.map _).nodup_iff.2 hn),hg];rfl) c
theorem dG.update[BEq κ][LawfulBEq κ]{w:World}{m:Nat}{l:List (κ×α)}(h:dG ek ev w m l)(K:dV P kt ek){t e:TypeId}(ht:P.underlying t=some (.map kt e))(k:κ)(v:α):
  ∃w1,(Instr.mapUpdate t (.map (some m)) (ek k) (ev v)).run P w=.ok () w1/\dG ek ev w1 m (bZ l k v)/\ai [m] w w1/\w1.heap.size=w.heap.size:=by
 have hn:=h.nodup K;obtain⟨l',h1,h2⟩:=h;have hn':=(h1.map _).nodup_iff.2 hn;obtain⟨w1,r1,r2,r3⟩:=h2.update K ht k (ev v);rw[Nv]at r2;exact⟨w1,r1,⟨_,(zx hn' k v).trans ((List.Perm.cons _ (h1.filter _)).trans (zx hn k v).symm),r2⟩,r3⟩
theorem dG.delete[BEq κ][LawfulBEq κ]{w:World}{m:Nat}{l:List (κ×α)}(h:dG ek ev w m l)(K:dV P kt ek){t e:TypeId}(ht:P.underlying t=some (.map kt e))(k:κ)(t2 ty:TypeId):
  ∃w1,(Builtin.delete_ #[t,t2] ty #[.map (some m),ek k]).run P w=.ok (.tuple #[]) w1/\dG ek ev w1 m (fD l k)/\ai [m] w w1/\w1.heap.size=w.heap.size:=by
 obtain⟨l',h1,h2⟩:=h;obtain⟨w1,r1,r2,r3⟩:=h2.delete K ht k t2 ty;rw[Ch]at r2;exact⟨w1,r1,⟨_,h1.filter _,r2⟩,r3⟩
theorem dG.clear{w:World}{m:Nat}{l:List (κ×α)}(h:dG ek ev w m l){t e:TypeId}(ht:P.underlying t=some (.map kt e))(ty:TypeId):
  ∃w1,(Builtin.clear_ #[t] ty #[.map (some m)]).run P w=.ok (.tuple #[]) w1/\dG ek ev w1 m ([]:List (κ×α))/\ai [m] w w1/\w1.heap.size=w.heap.size:=by
 obtain⟨l',h1,h2⟩:=h;obtain⟨w1,r1,r2,r3⟩:=h2.clear (P:=P) ht ty;exact⟨w1,r1,⟨[],List.Perm.refl _,r2⟩,r3⟩
def gF(ek:κ->Value)(ev:α->Value)(w:World)(r m:Nat)(l rem:List (κ×α)):Prop:= ∃l',l'.Perm l/\iZ ek w r m (BL ev l') (BL ev rem)
theorem gF.map{w:World}{r m:Nat}{l rem:List (κ×α)}(h:gF ek ev w r m l rem):dG ek ev w m l:=let⟨l',h1,h2⟩:=h;⟨l',h1,h2.map⟩
theorem gF.own{S:List Nat}{w w':World}{r m:Nat}{l rem:List (κ×α)}(h:gF ek ev w r m l rem)(ho:ai S w w')(hr:r∉S)(hm:m∉S):gF ek ev w' r m l rem:=
 let⟨l',h1,h2⟩:=h;⟨l',h1,h2.own ho hr hm⟩
theorem gF.lt{w:World}{r m:Nat}{l rem:List (κ×α)}(h:gF ek ev w r m l rem):r<w.heap.size:=by
 obtain⟨l',h1,hne,es,clock,since,seen,c0,hr,_⟩:=h;exact aj hr
theorem dG.range{w:World}{m:Nat}{l:List (κ×α)}(h:dG ek ev w m l){t e:TypeId}(ht:P.underlying t=some (.map kt e)):
  ∃w1 rem,(Instr.range t (.map (some m))).run P w=.ok (.pointer (some ⟨w.heap.size,0,none⟩)) w1/\gF ek ev w1 w.heap.size m l rem/\rem.Perm l/\ai [] w w1/\w1.heap.size=w.heap.size+1:=by
 obtain⟨l',h1,h2⟩:=h;obtain⟨w1,r1,r2,r3⟩:=h2.range (P:=P) ht;exact⟨w1,l',r1,⟨l',h1,r2⟩,h1,r3⟩
theorem gF.next{w:World}{r m:Nat}{l rem:List (κ×α)}(h:gF ek ev w r m l rem)(P:Program):
  (rem=[]/\ ∀ty,(Instr.next (.pointer (some ⟨r,0,none⟩)) false ty).run P w=.ok (.tuple #[.bool false]) w)\/
  ∃(r1 r2:List (κ×α)) (k:κ) (v:α) (w1:World),rem=r1++(k,v)::r2/\(∀ty,(Instr.next (.pointer (some ⟨r,0,none⟩)) false ty).run P w=.ok (.tuple #[.bool true,ek k,ev v]) w1)/\
   gF ek ev w1 r m l (r1++r2)/\ai [r] w w1/\w1.heap.size=w.heap.size/\(Instr.entry (.pointer (some ⟨r,0,none⟩))).run P w1=.ok (.tuple #[ek k,ev v]) w1:=by
 obtain⟨l',h1,h2⟩:=h;rcases h2.next (P:=P) 0 with⟨h3,h4⟩|⟨r1,r2,p,w1,h3,h4,h5,h6,h7,h8⟩
 ·left
  exact⟨by simpa[BL]using h3,fun ty=>h4⟩
 ·right
  obtain⟨s1,s2,hs,hs1,hs2⟩:=List.map_eq_append_iff.1 h3;obtain⟨q,s3,hs3,hq,hs4⟩:=List.map_eq_cons_iff.1 hs2;obtain⟨k,v⟩:=q;have hk:k=p.1:=(Prod.mk.inj hq).1;have hv:ev v=p.2:=(Prod.mk.inj hq).2;refine⟨s1,s3,k,v,w1,by rw[hs,hs3],fun ty=>by rw[hk,hv];exact h4,⟨l',h1,?_⟩,h6,h7,by rw[hk,hv];exact h8⟩;have:BL ev (s1++s3)=r1++r2:=by unfold BL;rw[List.map_append,hs1,hs4]
  rw[this];exact h5
theorem gF.delete[BEq κ][LawfulBEq κ]{w:World}{r m:Nat}{l rem:List (κ×α)}(h:gF ek ev w r m l rem)(K:dV P kt ek){t e:TypeId}(ht:P.underlying t=some (.map kt e))(k:κ)(t2:TypeId)(hk: ∀p∈rem,p.1≠k):
  ∃w1,(∀ty,(Builtin.delete_ #[t,t2] ty #[.map (some m),ek k]).run P w=.ok (.tuple #[]) w1)/\gF ek ev w1 r m (fD l k) rem/\ai [m] w w1/\w1.heap.size=w.heap.size:=by
 obtain⟨l',h1,h2⟩:=h;obtain⟨w1,r1,r2,r3⟩:=h2.delete K ht k t2 0 (fun p hp=>by
  obtain⟨q,hq,rfl⟩:=List.mem_map.1 hp;exact hk q hq)
 rw[Ch]at r2;exact⟨w1,fun ty=>r1,⟨_,h1.filter _,r2⟩,r3⟩
end
end Go.Proofs.YtedcakchekaemaaGreatDoor
