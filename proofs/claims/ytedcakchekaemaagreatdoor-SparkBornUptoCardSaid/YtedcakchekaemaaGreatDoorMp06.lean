/- Contracts of the program, part 6. -/
import Derived.Test.YtedcakchekaemaaGreatDoorMp02
import Derived.Deep.RegionLaw
import Derived.Test.YtedcakchekaemaaGreatDoorMp03
set_option maxRecDepth 100000
set_option maxHeartbeats 16000000
set_option linter.all false
namespace Go.Proofs.YtedcakchekaemaaGreatDoor
open Go.RowKit
section
variable {P : Program} {α : Type} {enc : α → List Value} {k : Nat}
theorem eX{ops:Array Oper}{o:Oper}{a:Act}{K:Act->World->Prop}{Q:Exit->Act->World->Prop}{E:Prop}(hgd:o.guard=none)(s x:Operand){t T:TypeId}(ho:o.op=.call {callee:=.builtin .append,args:=#[s,x],argTypes:=#[t,t]})
  {bytes:Nat}(E1:jG P t T enc k bytes){W w:World}(hW:ai [] W w){v sv:Value}{l l2:List α}(hs:a.eval s=v)(hv:Sl T enc k W.heap.size w v l)(hx:a.eval x=sv)(hsv:aG enc w sv l2)
  (hlen:(l.length+l2.length)*bytes<=140737488355328)(hmax:l.length+l2.length<=maxLen)
  (h: ∀v' w',Sl T enc k W.heap.size w' v' (l++l2)->ai [] W w'->(∀g,v'.ownBlock=some g->v.ownBlock=some g\/w.heap.size<=g)->ai v.ownBlock.toList w w'->K (a.put o.dst v') w'):
  if Region.wanted o (yielded ops a.tmps)=true then Oper.wp P o a w K Q else E:=by
 have hw:Region.wanted o (yielded ops a.tmps)=true:=by simp[Region.wanted,hgd]
 rw[if_pos hw];obtain⟨v',w',hr,h2,h3,h4,h5,h6⟩:=kK (P:=P) E1 o.type hW hv hsv hlen hmax;unfold Oper.wp execOp;simp only[ho,resolve,invoke,builtin,Sem.run_bind,Sem.run_pure,Result.andThen_ok,List.map_toArray,List.map_cons,List.map_nil,hs,hx,hr];exact h v' w' h2 h3 h5 h6
end
end Go.Proofs.YtedcakchekaemaaGreatDoor
namespace Go.Proofs.YtedcakchekaemaaGreatDoor
open Go.RowKit
abbrev rA:=ByteArray×ByteArray
abbrev dY:=List (Int×rA)
def iN(s:rA):Value:=.agg #[.string s.1,.string s.2]
def gJ:Int->Value:=Value.int .u64
def je(ow:ByteArray):List bJ->dY->Option dY
 | [],acc=>some acc
 |x::r,acc=>if x.has then(match aQ acc x.al with
  |some _=>none
  |none=>je ow r (acc++[(x.al,(ow,x.name))]))else je ow r acc
def aJ(l:dY)(ow:ByteArray):dY:=l.filter fun p=> !(p.2.1==ow)
def eP(l:dY)(ow:ByteArray)(want:dY):Bool:=(aJ l ow).any fun p=>(aQ want p.1).isSome
def uD(l:dY)(ow:ByteArray)(items:List bJ):Int×dY:=
 match je ow items []with
 |none=>(16,[])
 |some want=>if eP l ow want then(16,[])else if 64<(aJ l ow).length+want.length then(6,[])else(0,want)
def pO(l:dY)(ow:ByteArray)(items:List bJ):Int×dY:=
 if(uD l ow items).1=0 then(0,aJ l ow++(uD l ow items).2)else((uD l ow items).1,l)
def gK(l:dY)(ow:ByteArray)(a:Int):ByteArray×Bool:=
 match aQ l a with
 |none=>(ByteArray.empty,false)
 |some s=>if s.1==ow then(s.2,true)else(ByteArray.empty,false)
def gT(w:World)(a:Option Addr)(len:Nat)(its:Nat->bJ):Prop:=
 len<=140737488351232/\(0<len-> ∃b o,a=some ⟨b,o,none⟩/\b<w.heap.size/\ ∀i,i<len->(its i).wf/\ ∀j v,(its i).cells[j]?=some v->w.cell? ⟨b,o+i*8+j,none⟩=some v)
theorem gT.keep{w w':World}{a:Option Addr}{len:Nat}{its:Nat->bJ}(h:gT w a len its)(hc: ∀p:Addr,p.block<w.heap.size->w'.cell? p=w.cell? p)(hs:w.heap.size<=w'.heap.size):gT w' a len its:=by
 obtain⟨h1,h2⟩:=h;refine⟨h1,fun hl=>?_⟩;obtain⟨b,o,rfl,hb,hx⟩:=h2 hl;exact⟨b,o,rfl,by omega,fun i hi=>⟨(hx i hi).1,fun j v hj=>(hc ⟨b,o+i*8+j,none⟩ hb).trans ((hx i hi).2 j v hj)⟩⟩
theorem gT.own{w w':World}{a:Option Addr}{len:Nat}{its:Nat->bJ}(h:gT w a len its)(ho:ai [] w w'):gT w' a len its:=
 h.keep (fun p hp=>ho.cell hp (by simp)) ho.size
theorem gT.below{w w':World}{a:Option Addr}{len:Nat}{its:Nat->bJ}(h:gT w a len its)(ho:Below w.heap.size w w'):gT w' a len its:=
 h.keep (fun _ hp=>ho.cell hp) ho.size
structure uS (w:World) (b m:Nat) (l:dY):Prop where
 ne:b≠m
 row:w.heap[b]?=some (.cells #[.map (some m)] 336 (0,0))
 map:dR gJ iN w m l
theorem uS.own{S:List Nat}{w w':World}{b m:Nat}{l:dY}(h:uS w b m l)(ho:ai S w w')(hb:b∉S)(hm:m∉S):uS w' b m l:=⟨h.ne,ho.heap h.row hb,h.map.own ho hm⟩
theorem uS.perm{w:World}{b m:Nat}{l l':dY}(h:uS w b m l)(hp:l.Perm l'):uS w b m l':=⟨h.ne,h.row,h.map.perm hp⟩
theorem uS.lt{w:World}{b m:Nat}{l:dY}(h:uS w b m l):b<w.heap.size/\m<w.heap.size:=⟨aj h.row,h.map.lt⟩
theorem rC:eH Tryz.prog 51 gJ:=Pp Tryz.underlying51
theorem kz:Tryz.prog.underlying 334=some (.map 51 418):=Tryz.underlying334
theorem Qc(w:World):(zeroValue 418).run Tryz.prog w=.ok (.agg #[.string ⟨#[]⟩,.string ⟨#[]⟩]) w:=by kernel_rfl
theorem uS.nodup{w:World}{b m:Nat}{l:dY}(h:uS w b m l):(l.map (·.1)).Nodup:=h.map.nodup rC
theorem kR(b m:Nat)(w:World)(hm:w.cell? ⟨b,0,none⟩=some (.map (some m))):
  Calls Tryz.prog 312 #[.pointer (some ⟨b,0,none⟩)] w fun e w'=>e=.returned (.bool false)/\w=w':=by
 have hq:=fun w r=>run_eql_map_nil w 334 51 418 r Tryz.underlying334
 go_enter Tryz.func312,Tryz.ntmps312
 go_wp2
 go_ret
 exact⟨rfl,rfl⟩
theorem new_any(w:World):Calls Tryz.prog 163 #[] w fun e w'=> ∃b m,e=.returned (.pointer (some ⟨b,0,none⟩))/\uS w' b m []/\w.heap.size<=b/\w.heap.size<=m/\ai [] w w':=by
 have hmm:= @run_makeMap Tryz.prog;go_enter Tryz.func163,Tryz.ntmps163
 go_wp2
 go_ret
 refine⟨w.heap.size+1,w.heap.size,rfl,⟨by omega,heap_alloc2_new _ _ _,?_⟩,by omega,Nat.le_refl _,((ai.refl _ _).alloc _).alloc _⟩;exact(dR.made w).of_heap (Below.heap_alloc _ _ _ (by simp))
theorem Vw(b m:Nat)(l:dY)(w:World)(h:uS w b m l):
  Calls Tryz.prog 301 #[.pointer (some ⟨b,0,none⟩)] w fun e w'=>e=.returned (.int .i64 l.length)/\w=w':=by
 have hm:w.cell? ⟨b,0,none⟩=some (.map (some m)):=cell_of_row w b 0 _ _ _ h.row;have hlen:=h.map.len_run kz;clear h;go_enter Tryz.func301,Tryz.ntmps301
 go_wp2_with((go_at_call 312;refine(kR _ _ _ hm).mono ?_;rintro e w' ⟨rfl,rfl⟩))
 go_ret
 exact⟨rfl,rfl⟩
theorem Qd(b m:Nat)(l:dY)(ow:ByteArray)(a:Int)(w:World)(h:uS w b m l):
  Calls Tryz.prog 341 #[.pointer (some ⟨b,0,none⟩),.string ow,.int .u64 a] w fun e w'=>e=.returned (.tuple #[.string (gK l ow a).1,.bool (gK l ow a).2])/\ai [] w w':=by
 have hm:w.cell? ⟨b,0,none⟩=some (.map (some m)):=cell_of_row w b 0 _ _ _ h.row;unfold gK;cases hg:aQ l a with
 |none=>
  have hlk:=h.map.lookup_no rC kz a (Qc w) hg true;simp only[if_true,gJ]at hlk;clear h hg;go_enter Tryz.func341,Tryz.ntmps341
  go_wp2_with((go_at_call 312;refine(kR _ _ _ hm).mono ?_;rintro e w' ⟨rfl,rfl⟩))
  go_ret2
  exact⟨rfl,(ai.refl _ _).alloc _⟩
 |some s=>
  obtain⟨o,n⟩:=s;have hlk:=h.map.lookup_yes rC kz a hg true;simp only[if_true,gJ,iN]at hlk;clear h hg;by_cases ho:o=ow
  ·subst ho
   simp only[beq_self_eq_true,if_true];go_enter Tryz.func341,Tryz.ntmps341
   go_wp2_with((go_at_call 312;refine(kR _ _ _ hm).mono ?_;rintro e w' ⟨rfl,rfl⟩))
   go_ret2
   exact⟨rfl,(ai.refl _ _).alloc _⟩
  ·have ho1:(o==ow)=false:=by simpa using ho
   have ho2:(o.toList==ow.toList)=false:=by rw[<-beq_toListBytes];exact ho1
   simp only[ho1,Bool.false_eq_true,if_false];clear ho ho1;go_enter Tryz.func341,Tryz.ntmps341
   go_wp2_with((go_at_call 312;refine(kR _ _ _ hm).mono ?_;rintro e w' ⟨rfl,rfl⟩))
   go_ret2
   exact⟨rfl,(ai.refl _ _).alloc _⟩
def fw(n:Nat)(its:Nat->bJ):List bJ:=(List.range n).map its
theorem Ep{n:Nat}{its:Nat->bJ}{k:Nat}(h:k<n):(fw n its).drop k=its k::(fw n its).drop (k+1):=by
 rw[List.drop_eq_getElem_cons (by simpa[fw]using h)];simp[fw]
theorem HY{n:Nat}{its:Nat->bJ}{k:Nat}(h:n<=k):(fw n its).drop k=[]:=List.drop_eq_nil_of_le (by simpa[fw]using h)
def Mc(w:World)(r:Option dY)(e:Ending)(w':World):Prop:=
 (match r with
  |none=>e=.returned (.tuple #[.map none,.bool false])
  |some want=> ∃m,e=.returned (.tuple #[.map (some m),.bool true])/\dR gJ iN w' m want/\w.heap.size<=m)/\ai [] w w'
theorem Md(ow:ByteArray)(a:Option Addr)(n c:Nat)(its:Nat->bJ)(w:World)(hA:gT w a n its):
  Calls Tryz.prog 326 #[.string ow,.slice a n c] w (Mc w (je ow (fw n its) [])):=by
 have hl:=hA.1;have hmm:= @run_makeMap Tryz.prog;have hM0:=dR.made (ek:=gJ) (ev:=iN) w;obtain⟨W0,hW0⟩: ∃W0,W0=w.alloc (.map #[] 0):=⟨_,rfl⟩;have iE:ai [] w W0:=by rw[hW0];exact(ai.refl _ _).alloc _
 rw[<-hW0]at hM0;replace hmm:=hmm 334 w;rw[<-hW0]at hmm;clear hW0;obtain⟨mm,acv⟩: ∃mm,w.heap.size=mm:=⟨_,rfl⟩;rw[acv]at hM0 hmm;have afh:w.heap.size<=mm:=by omega
 clear acv;generalize hr:je ow (fw n its) []=r;change Hid _ at hr;go_enter Tryz.func326,Tryz.ntmps326
 go_wp2_with fail
 go_loopw[14] (fun i wr=> ∃(k:Nat) (acc:dY),k<=n/\i=.int .i64 k/\dR gJ iN wr mm acc/\ai [] w wr/\Hid (je ow ((fw n its).drop k) acc=r))
  (fun i _=>n-(intOf i).toNat)
 case atStart=>exact⟨0,[],by omega,rfl,hM0,iE,hr⟩
 case round=>
  obtain⟨k,acc,hk,rfl,hM,hO,hR⟩:=hrel;clear hmm hM0 iE;by_cases hlt:k<n
  ·have hA':=hA.own hO
   obtain⟨b,o,rfl,hb,hx⟩:=hA'.2 (by omega);have hc:=(hx k hlt).2;rw[Ep hlt]at hR;generalize its k=x at*;obtain⟨nm,hs,al,ty,nu,vk,vn,vs⟩:=x;have c0:=hc 0 _ rfl;have c1:=hc 1 _ rfl;have c2:=hc 2 _ rfl;have c3:=hc 3 _ rfl;have c4:=hc 4 _ rfl;have c5:=hc 5 _ rfl;have c6:=hc 6 _ rfl;have c7:=hc 7 _ rfl;simp only[Nat.add_zero]at c0;clear hx hc hA hA';cases hs
   ·go_wp2_with fail
    go_roundw
    case rel=>exact⟨k+1,acc,by omega,by go_num,hM.own ((ai.refl [] _).alloc _) (by simp),hO.alloc _,hR⟩
    case measure=>simp[intOf];omega
   ·have hM1:=hM.own ((ai.refl [] wr).alloc (.cells #[.string nm,.bool true,.int .u64 al,.int .u32 ty,.bool nu,.int .i64 vk,.int .u64 vn,.string vs] 162)) (by simp)
    cases hg:aQ acc al with
    |some s=>
     obtain⟨s1,s2⟩:=s;have hlk:=hM1.lookup_yes rC kz al hg true;simp only[if_true,gJ,iN]at hlk;replace hR:Hid (r=none):=af (by have:=hR.out;simp only[je,hg,if_true]at this;exact this.symm);clear hg hM1;go_wp2_with fail
     go_ret2
     rw[hR.out];exact⟨rfl,(hO.alloc _).alloc _⟩
    |none=>
     have hlk:=hM1.lookup_no rC kz al (Qc _) hg true;simp only[if_true,gJ]at hlk;have hM2:=hM1.own ((ai.refl [] _).alloc (.cells #[.string ⟨#[]⟩,.string ⟨#[]⟩] 418)) (by simp);obtain⟨w3,hup,eO,hO3,_⟩:=hM2.update rC kz al ((ow,nm):rA);rw[D5 hg]at eO;simp only[gJ,iN]at hup;replace hR:Hid (je ow ((fw n its).drop (k+1)) (acc++[(al,(ow,nm))])=r):=af (by have:=hR.out;simp only[je,hg,if_true]at this;exact this);have hO4:=((hO.alloc (.cells #[.string nm,.bool true,.int .u64 al,.int .u32 ty,.bool nu,.int .i64 vk,.int .u64 vn,.string vs] 162)).alloc (.cells #[.string ⟨#[]⟩,.string ⟨#[]⟩] 418)).trans' hO3 (by simp;omega);replace eO:=af (And.intro eO hO4);clear hg hM1 hM2 hO3 hO4;go_wp2_with fail
     go_roundw
     case rel=>exact⟨k+1,_,by omega,by go_num,eO.out.1,eO.out.2,hR⟩
     case measure=>simp[intOf];omega
  ·rw[HY (by omega)]at hR
   replace hR:Hid (r=some acc):=af (by have:=hR.out;simp only[je]at this;exact this.symm);have hlt':n<=k:=by omega
   clear hlt hA;replace hM:=af (And.intro hM hO);clear hO;go_wp2_with fail
   go_ret2
   rw[hR.out];exact⟨⟨mm,rfl,hM.out.1,afh⟩,hM.out.2⟩
theorem kT{l l':dY}(h:l.Perm l')(ow:ByteArray):(aJ l ow).Perm (aJ l' ow):=h.filter _
theorem Er{l l':dY}(h:l.Perm l')(ow:ByteArray)(want:dY):eP l ow want=eP l' ow want:=(kT h ow).any_eq
theorem jS{r1 r2:dY}{k:Int}{ow n:ByteArray}:aJ (r1++(k,(ow,n))::r2) ow=aJ (r1++r2) ow:=by
 simp[aJ,List.filter_append]
theorem jy{r1 r2:dY}{k:Int}{o n ow:ByteArray}(h:o≠ow):(aJ (r1++(k,(o,n))::r2) ow).Perm ((k,(o,n))::aJ (r1++r2) ow):=by
 have:(o==ow)=false:=by simpa using h
 simp only[aJ,List.filter_append,List.filter_cons,this,Bool.not_false,if_true];exact List.perm_middle
theorem uE(b m mw:Nat)(l want:dY)(ow:ByteArray)(w:World)(h:uS w b m l)(hw:dR gJ iN w mw want)(hcap:l.length<=1000000):
  Calls Tryz.prog 327 #[.pointer (some ⟨b,0,none⟩),.string ow,.map (some mw)] w fun e w'=>
   e=.returned (.tuple #[.int .i64 (aJ l ow).length,.bool (!(eP l ow want))])/\ai [] w w':=by
 have hm:w.cell? ⟨b,0,none⟩=some (.map (some m)):=cell_of_row w b 0 _ _ _ h.row;obtain⟨w1,vW,Uy,hI,hp,aL,hs1⟩:=h.map.range kz;have hw1:=hw.own aL (by simp);have hlt:=hw.lt;have hcl:(aJ l ow).Perm (aJ vW ow):=(kT hp ow).symm;have hce:(aJ l ow).length=(aJ vW ow).length:=hcl.length_eq;have hcc:eP l ow want=eP vW ow want:=Er hp.symm ow want;rw[hce,hcc];have hcap0:(aJ vW ow).length<=1000000:=by rw[<-hce];exact Nat.le_trans (List.length_filter_le _ _) hcap
 have hmr:m<w.heap.size:=h.map.lt;have hbr:b<w.heap.size:=aj h.row;obtain⟨r,hr⟩: ∃r,w.heap.size=r:=⟨_,rfl⟩;rw[hr]at hI Uy hmr hbr hlt;clear h hw hcl hce hcc hp;have hrr:w.heap.size<=r:=by omega
 clear hr;generalize hN:(aJ vW ow).length=N at*;generalize hC:eP vW ow want=C at*;change Hid _ at hN hC;go_enter Tryz.func327,Tryz.ntmps327
 go_wp2_with fail
 go_loopg[8,9] vW.length (fun g n cl wr=> ∃(rem:dY) (c:Nat) (q:Bool),g=rem.length/\n=.int .i64 c/\cl=.bool q/\iq gJ iN wr r m l rem/\dR gJ iN wr mw want/\ai [] w wr/\
  c+(aJ rem ow).length=N/\(q||eP rem ow want)=C)
 case atStart=>exact⟨vW,0,false,rfl,rfl,rfl,hI,hw1,aL,by rw[hN.out];omega,by rw[hC.out];simp⟩
 case round=>
  obtain⟨rem,c,q,rfl,rfl,rfl,hI,hW,hO,hc,hq⟩:=hrel;have hrl:=hI.lt;rcases hI.next Tryz.prog with⟨gX,hnx⟩|⟨r1,r2,k,v,w2,gX,hnx,hI2,hO2,hs2,hen⟩
  ·subst gX
   have hc':c=N:=by simpa[aJ]using hc
   have hq':q=C:=by simpa[eP,aJ]using hq
   subst hc' hq';clear hc hq hI hW;go_wp2_with fail
   go_ret2
   exact⟨rfl,hO⟩
  ·subst gX
   obtain⟨pq,nm⟩:=v;simp only[gJ,iN]at hnx hen;have hcN:c+1<=N+1:=by omega
   have hO3:=hO.trans' hO2 (by simp;omega);have hW2:=hW.own hO2 (by simp;omega);have K6:=hI2.own ((ai.refl [] _).alloc (.cells #[.string pq,.string nm] 418)) (by simp) (by simp);have hW3:=hW2.own ((ai.refl [] _).alloc (.cells #[.string pq,.string nm] 418)) (by simp);by_cases ho:pq=ow
   ·subst ho
    rw[jS]at hc;have hq2:(q||eP (r1++r2) pq want)=C:=by rw[<-hq];simp only[eP,jS]
    have A:Aside (c+(aJ (r1++r2) pq).length=N/\(q||eP (r1++r2) pq want)=C):=⟨hc,hq2⟩;have B:Aside (iq gJ iN _ r m l (r1++r2)/\dR gJ iN _ mw want/\ai [] w _):=⟨K6,hW3,hO3.alloc (.cells #[.string pq,.string nm] 418)⟩;clear hc hq hq2 hI hW hO hI2 hW2 hO2 hO3 K6 hW3 hC hN;go_wp2_with fail
    go_roundg(r1++r2).length
    case measure=>simp
    case rel=>exact⟨r1++r2,c,q,rfl,rfl,rfl,B.out.1,B.out.2.1,B.out.2.2,A.out.1,A.out.2⟩
   ·have hob:(pq.toList==ow.toList)=false:=by rw[<-beq_toListBytes];simpa using ho
    have hp2:=jy (r1:=r1) (r2:=r2) (k:=k) (n:=nm) ho;have hc2:(c+1)+(aJ (r1++r2) ow).length=N:=by have:=hp2.length_eq;simp at this;omega
    have hcl:eP (r1++(k,(pq,nm))::r2) ow want=((aQ want k).isSome||eP (r1++r2) ow want):=by
     unfold eP;rw[hp2.any_eq];rfl
    rw[hcl]at hq;have hNb:c+1<=1000000:=by omega
    cases hg:aQ want k with
    |none=>
     have hlk:=hW3.lookup_no rC kz k (Qc _) hg true;simp only[if_true,gJ]at hlk;rw[hg]at hq;have A:Aside ((c+1)+(aJ (r1++r2) ow).length=N/\(q||eP (r1++r2) ow want)=C):=⟨hc2,by simpa using hq⟩;have B:Aside (iq gJ iN _ r m l (r1++r2)/\dR gJ iN _ mw want/\ai [] w _):=
      ⟨K6.own ((ai.refl [] _).alloc (.cells #[.string ⟨#[]⟩,.string ⟨#[]⟩] 418)) (by simp) (by simp),hW3.own ((ai.refl [] _).alloc (.cells #[.string ⟨#[]⟩,.string ⟨#[]⟩] 418)) (by simp),(hO3.alloc (.cells #[.string pq,.string nm] 418)).alloc (.cells #[.string ⟨#[]⟩,.string ⟨#[]⟩] 418)⟩
     clear hc hq hc2 hI hW hO hI2 hW2 hO2 hO3 K6 hW3 hC hN hp2 hcl hg ho;go_wp2_with fail
     go_roundg(r1++r2).length
     case measure=>simp
     case rel=>exact⟨r1++r2,c+1,q,rfl,by go_num,rfl,B.out.1,B.out.2.1,B.out.2.2,A.out.1,A.out.2⟩
    |some s=>
     obtain⟨s1,s2⟩:=s;have hlk:=hW3.lookup_yes rC kz k hg true;simp only[if_true,gJ,iN]at hlk;rw[hg]at hq;have A:Aside ((c+1)+(aJ (r1++r2) ow).length=N/\(true||eP (r1++r2) ow want)=C):=⟨hc2,by simpa using hq⟩;have B:Aside (iq gJ iN _ r m l (r1++r2)/\dR gJ iN _ mw want/\ai [] w _):=
      ⟨K6.own ((ai.refl [] _).alloc (.cells #[.string s1,.string s2] 418)) (by simp) (by simp),hW3.own ((ai.refl [] _).alloc (.cells #[.string s1,.string s2] 418)) (by simp),(hO3.alloc (.cells #[.string pq,.string nm] 418)).alloc (.cells #[.string s1,.string s2] 418)⟩
     clear hc hq hc2 hI hW hO hI2 hW2 hO2 hO3 K6 hW3 hC hN hp2 hcl hg ho;go_wp2_with fail
     go_roundg(r1++r2).length
     case measure=>simp
     case rel=>exact⟨r1++r2,c+1,true,rfl,by go_num,rfl,B.out.1,B.out.2.1,B.out.2.2,A.out.1,A.out.2⟩
theorem wJ{r1 r2:dY}{p:Int×rA}(h:((r1++p::r2).map (·.1)).Nodup): ∀q∈r1++r2,q.1≠p.1:=by
 have h2:=((List.perm_middle (a:=p) (l₁:=r1) (l₂:=r2)).map (·.1)).nodup_iff.1 h;simp only[List.map_cons,List.nodup_cons]at h2;exact fun q hq e=>h2.1 (by rw[<-e];exact List.mem_map_of_mem hq)
theorem Qf{l dn r1 r2:dY}{p:Int×rA}(hp:l.Perm (dn++(r1++p::r2)))(hn:(l.map (·.1)).Nodup):(fU l p.1).Perm (dn++(r1++r2)):=by
 have h1:(fU l p.1).Perm (fU (dn++(r1++p::r2)) p.1):=hp.filter _;have hn2:(((dn++r1)++p::r2).map (·.1)).Nodup:=by
  have:=(hp.map (·.1)).nodup_iff.1 hn;simpa[List.append_assoc]using this
 have h2:=wJ hn2;have e:fU (dn++(r1++p::r2)) p.1=dn++(r1++r2):=by
  unfold fU;rw[<-List.append_assoc,List.filter_append,List.filter_cons];have q1:(dn++r1).filter (fun q=> !(q.1==p.1))=dn++r1:=List.filter_eq_self.2 fun q hq=>by simpa using h2 q (List.mem_append_left _ hq)
  have q2:r2.filter (fun q=> !(q.1==p.1))=r2:=List.filter_eq_self.2 fun q hq=>by simpa using h2 q (List.mem_append_right _ hq)
  rw[q1,q2];simp
 rw[e]at h1;exact h1
theorem Es(b m:Nat)(l:dY)(ow:ByteArray)(w:World)(h:uS w b m l)(hcap:l.length<=1000000):
  Calls Tryz.prog 275 #[.pointer (some ⟨b,0,none⟩),.string ow] w fun e w'=>
   e=.returned (.int .i64 ((l.length-(aJ l ow).length:Nat):Int))/\uS w' b m (aJ l ow)/\ai [m] w w':=by
 have hnd:=h.nodup;have hm:w.cell? ⟨b,0,none⟩=some (.map (some m)):=cell_of_row w b 0 _ _ _ h.row;obtain⟨w1,vW,Uy,hI,hp,aL,hs1⟩:=h.map.range kz;have hle:(aJ l ow).length<=l.length:=List.length_filter_le _ _;have hmr:m<w.heap.size:=h.map.lt;have hbr:b<w.heap.size:=aj h.row;obtain⟨r,hr⟩: ∃r,w.heap.size=r:=⟨_,rfl⟩;rw[hr]at hI Uy hmr hbr;have hrr:w.heap.size<=r:=by omega
 have yx:=h.ne;have Gd:=h.row;clear hr h;replace hnd:=af hnd;obtain⟨D,hD⟩: ∃D,l.length-(aJ l ow).length=D:=⟨_,rfl⟩;rw[hD];change Hid _ at hD;have hDb:D<=1000000:=by have:=hD.out;omega
 go_enter Tryz.func275,Tryz.ntmps275
 go_wp2_with(go_at_call 312;refine(kR _ _ _ hm).mono ?_;rintro e w' ⟨rfl,rfl⟩)
 go_loopg[5] vW.length (fun g n wr=> ∃(lc dn rem:dY) (c:Nat),g=rem.length/\n=.int .i64 c/\iq gJ iN wr r m lc rem/\ai [m] w wr/\lc.Perm (dn++rem)/\(dn++aJ rem ow).Perm (aJ l ow)/\(lc.map (·.1)).Nodup/\
  c+rem.length+(aJ l ow).length=l.length+(aJ rem ow).length)
 case atStart=>exact⟨l,[],vW,0,rfl,rfl,hI,aL.mono (by simp),by simpa using hp.symm,by simpa using kT hp ow,hnd.out,by rw[hp.length_eq,(kT hp ow).length_eq];omega⟩
 case round=>
  obtain⟨lc,dn,rem,c,rfl,rfl,hI,hO,hp1,hp2,hn1,hcnt⟩:=hrel;have hrl:=hI.lt;have hrow:=hO.heap Gd (by simpa using yx);rcases hI.next Tryz.prog with⟨gX,hnx⟩|⟨r1,r2,k,v,w2,gX,hnx,hI2,hO2,hs2,hen⟩
  ·subst gX
   have hcD:c=D:=by have:=hD.out;simp[aJ]at hcnt;simp only[aJ]at this hle;omega
   subst hcD;have hfin:uS wr b m (aJ l ow):=⟨yx,hrow,hI.map.perm (hp1.trans (by simpa[aJ]using hp2))⟩;change Hid _ at hfin;clear hI hp1 hp2 hn1 hcnt hrow Gd;go_wp2_with fail
   go_ret
   exact⟨rfl,hfin.out,hO⟩
  ·subst gX
   obtain⟨pq,nm⟩:=v;simp only[gJ,iN]at hnx hen;have hO3:=hO.trans' hO2 (by simp;omega);have K6:=hI2.own ((ai.refl [] _).alloc (.cells #[.string pq,.string nm] 418)) (by simp) (by simp);have hO4:=hO3.alloc (.cells #[.string pq,.string nm] 418);by_cases ho:pq=ow
   ·subst ho
    have hnk: ∀p∈r1++r2,p.1≠k:=by
     have hn2:((r1++(k,(pq,nm))::r2).map (·.1)).Nodup:=by
      have:=(hp1.map (·.1)).nodup_iff.1 hn1;rw[List.map_append]at this;exact(List.nodup_append.1 this).2.1
     exact wJ hn2
    obtain⟨w3,hdel,hI4,aF,hs3⟩:=K6.delete rC kz k 51 hnk;have hp3:(fU lc k).Perm (dn++(r1++r2)):=Qf (p:=(k,(pq,nm))) hp1 hn1;have XZ:((fU lc k).map (·.1)).Nodup:=((List.filter_sublist (l:=lc)).map _).nodup hn1;rw[jS]at hp2 hcnt;have Gf:(c+1)+(r1++r2).length+(aJ l pq).length=l.length+(aJ (r1++r2) pq).length:=by simp at hcnt⊢;omega
    have hcb:c+1<=1000001:=by
     have:=hD.out;have h1:(aJ (r1++r2) pq).length<=(r1++r2).length:=List.length_filter_le _ _;omega
    have bI:=hO4.trans aF;have hmc:(w2.alloc (.cells #[.string pq,.string nm] 418)).cell? ⟨b,0,none⟩=some (.map (some m)):=
     cell_of_row _ b 0 _ _ _ (hO4.heap Gd (by simpa using yx))
    simp only[gJ]at hdel;have A:Aside (iq gJ iN w3 r m (fU lc k) (r1++r2)/\ai [m] w w3/\(fU lc k).Perm (dn++(r1++r2))/\(dn++aJ (r1++r2) pq).Perm (aJ l pq)/\((fU lc k).map (·.1)).Nodup/\(c+1)+(r1++r2).length+(aJ l pq).length=l.length+(aJ (r1++r2) pq).length):=
     ⟨hI4,bI,hp3,hp2,XZ,Gf⟩
    clear hI hI2 K6 hI4 hO hO2 hO3 hO4 aF bI hp1 hp2 hp3 hn1 XZ hcnt Gf hnk hrow Gd;go_wp2_with fail
    go_roundg(r1++r2).length
    case measure=>simp
    case rel=>exact⟨_,dn,r1++r2,c+1,rfl,by go_num,A.out⟩
   ·have hob:(pq.toList==ow.toList)=false:=by rw[<-beq_toListBytes];simpa using ho
    have Ar:lc.Perm (((k,(pq,nm))::dn)++(r1++r2)):=hp1.trans (by
     refine(List.Perm.append_left dn List.perm_middle).trans ?_;exact List.perm_middle)
    have hp5:(((k,(pq,nm))::dn)++aJ (r1++r2) ow).Perm (aJ l ow):=
     (List.perm_middle.symm.trans (List.Perm.append_left dn (jy ho).symm)).trans hp2
    have Gf:c+(r1++r2).length+(aJ l ow).length=l.length+(aJ (r1++r2) ow).length:=by
     have:=(jy (r1:=r1) (r2:=r2) (k:=k) (n:=nm) ho).length_eq;simp at this hcnt⊢;omega
    have A:Aside (iq gJ iN _ r m lc (r1++r2)/\ai [m] w _/\lc.Perm (((k,(pq,nm))::dn)++(r1++r2))/\(((k,(pq,nm))::dn)++aJ (r1++r2) ow).Perm (aJ l ow)/\(lc.map (·.1)).Nodup/\c+(r1++r2).length+(aJ l ow).length=l.length+(aJ (r1++r2) ow).length):=
     ⟨K6,hO4,Ar,hp5,hn1,Gf⟩
    clear hI hI2 K6 hO hO2 hO3 hO4 hp1 hp2 Ar hp5 hn1 hcnt Gf hrow Gd ho;go_wp2_with fail
    go_roundg(r1++r2).length
    case measure=>simp
    case rel=>exact⟨_,_,r1++r2,c,rfl,rfl,A.out⟩
theorem Qg(m mw:Nat)(base want:dY)(w:World)(hm:dR gJ iN w m base)(hw:dR gJ iN w mw want)(hne:m≠mw)(JV: ∀p∈want,aQ base p.1=none):
  Calls Tryz.prog 297 #[.map (some m),.map (some mw)] w fun e w'=>
   e=.returned (.tuple #[])/\dR gJ iN w' m (base++want)/\ai [m] w w':=by
 have hnd:=hw.nodup rC;obtain⟨w1,vW,Uy,hI,hp,aL,hs1⟩:=hw.range kz;have hm1:=hm.own aL (by simp);have hmr:m<w.heap.size:=hm.lt;obtain⟨r,hr⟩: ∃r,w.heap.size=r:=⟨_,rfl⟩;rw[hr]at hI Uy hmr;have hrr:w.heap.size<=r:=by omega
 clear hr hm hw;change Hid _ at JV;replace hnd:=af hnd;replace hp:=af hp;go_enter Tryz.func297,Tryz.ntmps297
 go_wp2_with fail
 go_loopg[4] vW.length (fun g _k wr=> ∃(cur dn rem:dY),g=rem.length/\iq gJ iN wr r mw want rem/\dR gJ iN wr m cur/\ai [m] w wr/\cur.Perm (base++dn)/\want.Perm (dn++rem))
 case atStart=>exact⟨base,[],vW,rfl,hI,hm1,aL.mono (by simp),by simp,hp.out.symm⟩
 case round=>
  obtain⟨cur,dn,rem,rfl,hI,hM,hO,hp1,hp2⟩:=hrel;have hrl:=hI.lt;rcases hI.next Tryz.prog with⟨gX,hnx⟩|⟨r1,r2,k,v,w2,gX,hnx,hI2,hO2,hs2,hen⟩
  ·subst gX
   have hfin:dR gJ iN wr m (base++want):=hM.perm (hp1.trans (List.Perm.append_left base (by simpa using hp2.symm)));change Hid _ at hfin;clear hI hM hp1 hp2;go_wp2_with fail
   go_end0
   exact⟨rfl,hfin.out,hO⟩
  ·subst gX
   obtain⟨pq,nm⟩:=v;simp only[gJ,iN]at hnx hen;have hO3:=hO.trans' hO2 (by simp;omega);have hM2:=hM.own hO2 (by simp;omega);have K6:=hI2.own ((ai.refl [] _).alloc (.cells #[.string pq,.string nm] 418)) (by simp) (by simp);have eO:=hM2.own ((ai.refl [] _).alloc (.cells #[.string pq,.string nm] 418)) (by simp);have hO4:=hO3.alloc (.cells #[.string pq,.string nm] 418);have hkw:(k,((pq,nm):rA))∈want:=hp2.mem_iff.2 (by simp);have hnk:=wJ (r1:=dn++r1) (r2:=r2) (p:=(k,((pq,nm):rA))) (by
    have:=(hp2.map (·.1)).nodup_iff.1 hnd.out;simpa[List.append_assoc]using this)
   have hgn:aQ cur k=none:=by
    rw[dW];intro p hp';rcases List.mem_append.1 (hp1.mem_iff.1 hp')with h1|h1
    ·exact(dW _ _).1 (JV.out _ hkw) p h1
    ·exact hnk p (List.mem_append_left _ (List.mem_append_left _ h1))
   obtain⟨w3,hup,xX,aF,hs3⟩:=eO.update rC kz k ((pq,nm):rA);rw[D5 hgn]at xX;have hI4:=K6.own aF (by simp;omega) (by simpa using hne.symm);simp only[gJ,iN]at hup;have A:Aside (iq gJ iN w3 r mw want (r1++r2)/\dR gJ iN w3 m (cur++[(k,(pq,nm))])/\ai [m] w w3/\(cur++[(k,(pq,nm))]).Perm (base++(dn++[(k,(pq,nm))]))/\want.Perm ((dn++[(k,(pq,nm))])++(r1++r2))):=
    ⟨hI4,xX,hO4.trans aF,by rw[<-List.append_assoc];exact hp1.append_right _,hp2.trans (by rw[List.append_assoc];exact List.Perm.append_left dn List.perm_middle)⟩
   clear hI hI2 K6 hI4 hM hM2 eO xX hO hO2 hO3 hO4 aF hp1 hp2 hnk hgn hkw;go_wp2_with fail
   go_roundg(r1++r2).length
   case measure=>simp
   case rel=>exact⟨_,_,r1++r2,rfl,A.out⟩
end Go.Proofs.YtedcakchekaemaaGreatDoor
