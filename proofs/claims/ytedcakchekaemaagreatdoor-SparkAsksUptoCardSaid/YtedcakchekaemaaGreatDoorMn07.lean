import Derived.Test.YtedcakchekaemaaGreatDoorMn02
import Derived.Deep.RegionLaw
import Derived.Test.YtedcakchekaemaaGreatDoorMn03
set_option maxRecDepth 100000
set_option maxHeartbeats 16000000
set_option linter.all false
namespace Go.Proofs.YtedcakchekaemaaGreatDoor
open Go.RowKit
section
variable {P : Program} {α : Type} {enc : α → List Value} {k : Nat}
theorem fu{ops:Array Oper}{o:Oper}{a:Act}{K:Act->World->Prop}{Q:Exit->Act->World->Prop}{E:Prop}(hgd:o.guard=none)(s x:Operand){t T:TypeId}(ho:o.op=.call {callee:=.builtin .append,args:=#[s,x],argTypes:=#[t,t]})
  {bytes:Nat}(E1:je P t T enc k bytes){W w:World}(hW:ai [] W w){v sv:Value}{l l2:List α}(hs:a.eval s=v)(hv:Sl T enc k W.heap.size w v l)(hx:a.eval x=sv)(hsv:aA enc w sv l2)
  (hlen:(l.length+l2.length)*bytes<=140737488355328)(hmax:l.length+l2.length<=maxLen)
  (h: ∀v' w',Sl T enc k W.heap.size w' v' (l++l2)->ai [] W w'->(∀g,v'.ownBlock=some g->v.ownBlock=some g\/w.heap.size<=g)->ai v.ownBlock.toList w w'->K (a.put o.dst v') w'):
  if Region.wanted o (yielded ops a.tmps)=true then Oper.wp P o a w K Q else E:=by
 have hw:Region.wanted o (yielded ops a.tmps)=true:=by simp[Region.wanted,hgd]
 rw[if_pos hw];obtain⟨v',w',hr,h2,h3,h4,h5,h6⟩:=jO (P:=P) E1 o.type hW hv hsv hlen hmax;unfold Oper.wp execOp;simp only[ho,resolve,invoke,builtin,Sem.run_bind,Sem.run_pure,Result.andThen_ok,List.map_toArray,List.map_cons,List.map_nil,hs,hx,hr];exact h v' w' h2 h3 h5 h6
end
end Go.Proofs.YtedcakchekaemaaGreatDoor
namespace Go.Proofs.YtedcakchekaemaaGreatDoor
open Go.RowKit
abbrev pU:=ByteArray×ByteArray
abbrev dN:=List (Int×pU)
def gY(s:pU):Value:=.agg #[.string s.1,.string s.2]
def fQ:Int->Value:=Value.int .u64
def iJ(ow:ByteArray):List bD->dN->Option dN
 | [],acc=>some acc
 |x::r,acc=>if x.has then(match aS acc x.al with
  |some _=>none
  |none=>iJ ow r (acc++[(x.al,(ow,x.name))]))else iJ ow r acc
def aD(l:dN)(ow:ByteArray):dN:=l.filter fun p=> !(p.2.1==ow)
def dW(l:dN)(ow:ByteArray)(want:dN):Bool:=(aD l ow).any fun p=>(aS want p.1).isSome
def rX(l:dN)(ow:ByteArray)(items:List bD):Int×dN:=
 match iJ ow items []with
 |none=>(16,[])
 |some want=>if dW l ow want then(16,[])else if 64<(aD l ow).length+want.length then(6,[])else(0,want)
def oD(l:dN)(ow:ByteArray)(items:List bD):Int×dN:=
 if(rX l ow items).1=0 then(0,aD l ow++(rX l ow items).2)else((rX l ow items).1,l)
def fZ(l:dN)(ow:ByteArray)(a:Int):ByteArray×Bool:=
 match aS l a with
 |none=>(ByteArray.empty,false)
 |some s=>if s.1==ow then(s.2,true)else(ByteArray.empty,false)
def gq(w:World)(a:Option Addr)(len:Nat)(its:Nat->bD):Prop:=
 len<=140737488351232/\(0<len-> ∃b o,a=some ⟨b,o,none⟩/\b<w.heap.size/\ ∀i,i<len->(its i).wf/\ ∀j v,(its i).cells[j]?=some v->w.cell? ⟨b,o+i*8+j,none⟩=some v)
theorem gq.keep{w w':World}{a:Option Addr}{len:Nat}{its:Nat->bD}(h:gq w a len its)(hc: ∀p:Addr,p.block<w.heap.size->w'.cell? p=w.cell? p)(hs:w.heap.size<=w'.heap.size):gq w' a len its:=by
 obtain⟨h1,h2⟩:=h;refine⟨h1,fun hl=>?_⟩;obtain⟨b,o,rfl,hb,hx⟩:=h2 hl;exact⟨b,o,rfl,by omega,fun i hi=>⟨(hx i hi).1,fun j v hj=>(hc ⟨b,o+i*8+j,none⟩ hb).trans ((hx i hi).2 j v hj)⟩⟩
theorem gq.own{w w':World}{a:Option Addr}{len:Nat}{its:Nat->bD}(h:gq w a len its)(ho:ai [] w w'):gq w' a len its:=
 h.keep (fun p hp=>ho.cell hp (by simp)) ho.size
theorem gq.below{w w':World}{a:Option Addr}{len:Nat}{its:Nat->bD}(h:gq w a len its)(ho:Below w.heap.size w w'):gq w' a len its:=
 h.keep (fun _ hp=>ho.cell hp) ho.size
structure sJ (w:World) (b m:Nat) (l:dN):Prop where
 ne:b≠m
 row:w.heap[b]?=some (.cells #[.map (some m)] 336 (0,0))
 map:dG fQ gY w m l
theorem sJ.own{S:List Nat}{w w':World}{b m:Nat}{l:dN}(h:sJ w b m l)(ho:ai S w w')(hb:b∉S)(hm:m∉S):sJ w' b m l:=⟨h.ne,ho.heap h.row hb,h.map.own ho hm⟩
theorem sJ.perm{w:World}{b m:Nat}{l l':dN}(h:sJ w b m l)(hp:l.Perm l'):sJ w b m l':=⟨h.ne,h.row,h.map.perm hp⟩
theorem sJ.lt{w:World}{b m:Nat}{l:dN}(h:sJ w b m l):b<w.heap.size/\m<w.heap.size:=⟨aj h.row,h.map.lt⟩
theorem pV:dV Tryz.prog 51 fQ:=Nb Tryz.underlying51
theorem jJ:Tryz.prog.underlying 334=some (.map 51 418):=Tryz.underlying334
theorem NN(w:World):(zeroValue 418).run Tryz.prog w=.ok (.agg #[.string ⟨#[]⟩,.string ⟨#[]⟩]) w:=by kernel_rfl
theorem sJ.nodup{w:World}{b m:Nat}{l:dN}(h:sJ w b m l):(l.map (·.1)).Nodup:=h.map.nodup pV
theorem jV(b m:Nat)(w:World)(hm:w.cell? ⟨b,0,none⟩=some (.map (some m))):
  Calls Tryz.prog 312 #[.pointer (some ⟨b,0,none⟩)] w fun e w'=>e=.returned (.bool false)/\w=w':=by
 have hq:=fun w r=>run_eql_map_nil w 334 51 418 r Tryz.underlying334
 go_enter Tryz.func312,Tryz.ntmps312
 go_wp2
 go_ret
 exact⟨rfl,rfl⟩
theorem new_any(w:World):Calls Tryz.prog 163 #[] w fun e w'=> ∃b m,e=.returned (.pointer (some ⟨b,0,none⟩))/\sJ w' b m []/\w.heap.size<=b/\w.heap.size<=m/\ai [] w w':=by
 have hmm:= @run_makeMap Tryz.prog;go_enter Tryz.func163,Tryz.ntmps163
 go_wp2
 go_ret
 refine⟨w.heap.size+1,w.heap.size,rfl,⟨by omega,heap_alloc2_new _ _ _,?_⟩,by omega,Nat.le_refl _,((ai.refl _ _).alloc _).alloc _⟩;exact(dG.made w).of_heap (Below.heap_alloc _ _ _ (by simp))
theorem RA(b m:Nat)(l:dN)(w:World)(h:sJ w b m l):
  Calls Tryz.prog 301 #[.pointer (some ⟨b,0,none⟩)] w fun e w'=>e=.returned (.int .i64 l.length)/\w=w':=by
 have hm:w.cell? ⟨b,0,none⟩=some (.map (some m)):=cell_of_row w b 0 _ _ _ h.row;have hlen:=h.map.len_run jJ;clear h;go_enter Tryz.func301,Tryz.ntmps301
 go_wp2_with((go_at_call 312;refine(jV _ _ _ hm).mono ?_;rintro e w' ⟨rfl,rfl⟩))
 go_ret
 exact⟨rfl,rfl⟩
theorem NP(b m:Nat)(l:dN)(ow:ByteArray)(a:Int)(w:World)(h:sJ w b m l):
  Calls Tryz.prog 341 #[.pointer (some ⟨b,0,none⟩),.string ow,.int .u64 a] w fun e w'=>e=.returned (.tuple #[.string (fZ l ow a).1,.bool (fZ l ow a).2])/\ai [] w w':=by
 have hm:w.cell? ⟨b,0,none⟩=some (.map (some m)):=cell_of_row w b 0 _ _ _ h.row;unfold fZ;cases hg:aS l a with
 |none=>
  have hlk:=h.map.lookup_no pV jJ a (NN w) hg true;simp only[if_true,fQ]at hlk;clear h hg;go_enter Tryz.func341,Tryz.ntmps341
  go_wp2_with((go_at_call 312;refine(jV _ _ _ hm).mono ?_;rintro e w' ⟨rfl,rfl⟩))
  go_ret2
  exact⟨rfl,(ai.refl _ _).alloc _⟩
 |some s=>
  obtain⟨o,n⟩:=s;have hlk:=h.map.lookup_yes pV jJ a hg true;simp only[if_true,fQ,gY]at hlk;clear h hg;by_cases ho:o=ow
  ·subst ho
   simp only[beq_self_eq_true,if_true];go_enter Tryz.func341,Tryz.ntmps341
   go_wp2_with((go_at_call 312;refine(jV _ _ _ hm).mono ?_;rintro e w' ⟨rfl,rfl⟩))
   go_ret2
   exact⟨rfl,(ai.refl _ _).alloc _⟩
  ·have ho1:(o==ow)=false:=by simpa using ho
   have ho2:(o.toList==ow.toList)=false:=by rw[<-beq_toListBytes];exact ho1
   simp only[ho1,Bool.false_eq_true,if_false];clear ho ho1;go_enter Tryz.func341,Tryz.ntmps341
   go_wp2_with((go_at_call 312;refine(jV _ _ _ hm).mono ?_;rintro e w' ⟨rfl,rfl⟩))
   go_ret2
   exact⟨rfl,(ai.refl _ _).alloc _⟩
def eO(n:Nat)(its:Nat->bD):List bD:=(List.range n).map its
theorem CO{n:Nat}{its:Nat->bD}{k:Nat}(h:k<n):(eO n its).drop k=its k::(eO n its).drop (k+1):=by
 rw[List.drop_eq_getElem_cons (by simpa[eO]using h)];simp[eO]
theorem FH{n:Nat}{its:Nat->bD}{k:Nat}(h:n<=k):(eO n its).drop k=[]:=List.drop_eq_nil_of_le (by simpa[eO]using h)
def Ka(w:World)(r:Option dN)(e:Ending)(w':World):Prop:=
 (match r with
  |none=>e=.returned (.tuple #[.map none,.bool false])
  |some want=> ∃m,e=.returned (.tuple #[.map (some m),.bool true])/\dG fQ gY w' m want/\w.heap.size<=m)/\ai [] w w'
theorem Kb(ow:ByteArray)(a:Option Addr)(n c:Nat)(its:Nat->bD)(w:World)(hA:gq w a n its):
  Calls Tryz.prog 326 #[.string ow,.slice a n c] w (Ka w (iJ ow (eO n its) [])):=by
 have hl:=hA.1;have hmm:= @run_makeMap Tryz.prog;have hM0:=dG.made (ek:=fQ) (ev:=gY) w;obtain⟨W0,hW0⟩: ∃W0,W0=w.alloc (.map #[] 0):=⟨_,rfl⟩;have gV:ai [] w W0:=by rw[hW0];exact(ai.refl _ _).alloc _
 rw[<-hW0]at hM0;replace hmm:=hmm 334 w;rw[<-hW0]at hmm;clear hW0;obtain⟨mm,YU⟩: ∃mm,w.heap.size=mm:=⟨_,rfl⟩;rw[YU]at hM0 hmm;have abr:w.heap.size<=mm:=by omega
 clear YU;generalize hr:iJ ow (eO n its) []=r;change Hid _ at hr;go_enter Tryz.func326,Tryz.ntmps326
 go_wp2_with fail
 go_loopw[14] (fun i wr=> ∃(k:Nat) (acc:dN),k<=n/\i=.int .i64 k/\dG fQ gY wr mm acc/\ai [] w wr/\Hid (iJ ow ((eO n its).drop k) acc=r))
  (fun i _=>n-(intOf i).toNat)
 case atStart=>exact⟨0,[],by omega,rfl,hM0,gV,hr⟩
 case round=>
  obtain⟨k,acc,hk,rfl,hM,hO,hR⟩:=hrel;clear hmm hM0 gV;by_cases hlt:k<n
  ·have hA':=hA.own hO
   obtain⟨b,o,rfl,hb,hx⟩:=hA'.2 (by omega);have hc:=(hx k hlt).2;rw[CO hlt]at hR;generalize its k=x at*;obtain⟨nm,hs,al,ty,nu,vk,vn,vs⟩:=x;have c0:=hc 0 _ rfl;have c1:=hc 1 _ rfl;have c2:=hc 2 _ rfl;have c3:=hc 3 _ rfl;have c4:=hc 4 _ rfl;have c5:=hc 5 _ rfl;have c6:=hc 6 _ rfl;have c7:=hc 7 _ rfl;simp only[Nat.add_zero]at c0;clear hx hc hA hA';cases hs
   ·go_wp2_with fail
    go_roundw
    case rel=>exact⟨k+1,acc,by omega,by go_num,hM.own ((ai.refl [] _).alloc _) (by simp),hO.alloc _,hR⟩
    case measure=>simp[intOf];omega
   ·have hM1:=hM.own ((ai.refl [] wr).alloc (.cells #[.string nm,.bool true,.int .u64 al,.int .u32 ty,.bool nu,.int .i64 vk,.int .u64 vn,.string vs] 162)) (by simp)
    cases hg:aS acc al with
    |some s=>
     obtain⟨s1,s2⟩:=s;have hlk:=hM1.lookup_yes pV jJ al hg true;simp only[if_true,fQ,gY]at hlk;replace hR:Hid (r=none):=af (by have:=hR.out;simp only[iJ,hg,if_true]at this;exact this.symm);clear hg hM1;go_wp2_with fail
     go_ret2
     rw[hR.out];exact⟨rfl,(hO.alloc _).alloc _⟩
    |none=>
     have hlk:=hM1.lookup_no pV jJ al (NN _) hg true;simp only[if_true,fQ]at hlk;have hM2:=hM1.own ((ai.refl [] _).alloc (.cells #[.string ⟨#[]⟩,.string ⟨#[]⟩] 418)) (by simp);obtain⟨w3,hup,dY,hO3,_⟩:=hM2.update pV jJ al ((ow,nm):pU);rw[Cj hg]at dY;simp only[fQ,gY]at hup;replace hR:Hid (iJ ow ((eO n its).drop (k+1)) (acc++[(al,(ow,nm))])=r):=af (by have:=hR.out;simp only[iJ,hg,if_true]at this;exact this);have hO4:=((hO.alloc (.cells #[.string nm,.bool true,.int .u64 al,.int .u32 ty,.bool nu,.int .i64 vk,.int .u64 vn,.string vs] 162)).alloc (.cells #[.string ⟨#[]⟩,.string ⟨#[]⟩] 418)).trans' hO3 (by simp;omega);replace dY:=af (And.intro dY hO4);clear hg hM1 hM2 hO3 hO4;go_wp2_with fail
     go_roundw
     case rel=>exact⟨k+1,_,by omega,by go_num,dY.out.1,dY.out.2,hR⟩
     case measure=>simp[intOf];omega
  ·rw[FH (by omega)]at hR
   replace hR:Hid (r=some acc):=af (by have:=hR.out;simp only[iJ]at this;exact this.symm);have hlt':n<=k:=by omega
   clear hlt hA;replace hM:=af (And.intro hM hO);clear hO;go_wp2_with fail
   go_ret2
   rw[hR.out];exact⟨⟨mm,rfl,hM.out.1,abr⟩,hM.out.2⟩
theorem jW{l l':dN}(h:l.Perm l')(ow:ByteArray):(aD l ow).Perm (aD l' ow):=h.filter _
theorem CP{l l':dN}(h:l.Perm l')(ow:ByteArray)(want:dN):dW l ow want=dW l' ow want:=(jW h ow).any_eq
theorem jr{r1 r2:dN}{k:Int}{ow n:ByteArray}:aD (r1++(k,(ow,n))::r2) ow=aD (r1++r2) ow:=by
 simp[aD,List.filter_append]
theorem ja{r1 r2:dN}{k:Int}{o n ow:ByteArray}(h:o≠ow):(aD (r1++(k,(o,n))::r2) ow).Perm ((k,(o,n))::aD (r1++r2) ow):=by
 have:(o==ow)=false:=by simpa using h
 simp only[aD,List.filter_append,List.filter_cons,this,Bool.not_false,if_true];exact List.perm_middle
theorem rY(b m mw:Nat)(l want:dN)(ow:ByteArray)(w:World)(h:sJ w b m l)(hw:dG fQ gY w mw want)(hcap:l.length<=1000000):
  Calls Tryz.prog 327 #[.pointer (some ⟨b,0,none⟩),.string ow,.map (some mw)] w fun e w'=>
   e=.returned (.tuple #[.int .i64 (aD l ow).length,.bool (!(dW l ow want))])/\ai [] w w':=by
 have hm:w.cell? ⟨b,0,none⟩=some (.map (some m)):=cell_of_row w b 0 _ _ _ h.row;obtain⟨w1,uj,QD,hI,hp,aH,hs1⟩:=h.map.range jJ;have hw1:=hw.own aH (by simp);have hlt:=hw.lt;have hcl:(aD l ow).Perm (aD uj ow):=(jW hp ow).symm;have hce:(aD l ow).length=(aD uj ow).length:=hcl.length_eq;have hcc:dW l ow want=dW uj ow want:=CP hp.symm ow want;rw[hce,hcc];have hcap0:(aD uj ow).length<=1000000:=by rw[<-hce];exact Nat.le_trans (List.length_filter_le _ _) hcap
 have hmr:m<w.heap.size:=h.map.lt;have hbr:b<w.heap.size:=aj h.row;obtain⟨r,hr⟩: ∃r,w.heap.size=r:=⟨_,rfl⟩;rw[hr]at hI QD hmr hbr hlt;clear h hw hcl hce hcc hp;have hrr:w.heap.size<=r:=by omega
 clear hr;generalize hN:(aD uj ow).length=N at*;generalize hC:dW uj ow want=C at*;change Hid _ at hN hC;go_enter Tryz.func327,Tryz.ntmps327
 go_wp2_with fail
 go_loopg[8,9] uj.length (fun g n cl wr=> ∃(rem:dN) (c:Nat) (q:Bool),g=rem.length/\n=.int .i64 c/\cl=.bool q/\gF fQ gY wr r m l rem/\dG fQ gY wr mw want/\ai [] w wr/\
  c+(aD rem ow).length=N/\(q||dW rem ow want)=C)
 case atStart=>exact⟨uj,0,false,rfl,rfl,rfl,hI,hw1,aH,by rw[hN.out];omega,by rw[hC.out];simp⟩
 case round=>
  obtain⟨rem,c,q,rfl,rfl,rfl,hI,hW,hO,hc,hq⟩:=hrel;have hrl:=hI.lt;rcases hI.next Tryz.prog with⟨mQ,hnx⟩|⟨r1,r2,k,v,w2,mQ,hnx,hI2,hO2,hs2,hen⟩
  ·subst mQ
   have hc':c=N:=by simpa[aD]using hc
   have hq':q=C:=by simpa[dW,aD]using hq
   subst hc' hq';clear hc hq hI hW;go_wp2_with fail
   go_ret2
   exact⟨rfl,hO⟩
  ·subst mQ
   obtain⟨og,nm⟩:=v;simp only[fQ,gY]at hnx hen;have hcN:c+1<=N+1:=by omega
   have hO3:=hO.trans' hO2 (by simp;omega);have hW2:=hW.own hO2 (by simp;omega);have Jp:=hI2.own ((ai.refl [] _).alloc (.cells #[.string og,.string nm] 418)) (by simp) (by simp);have hW3:=hW2.own ((ai.refl [] _).alloc (.cells #[.string og,.string nm] 418)) (by simp);by_cases ho:og=ow
   ·subst ho
    rw[jr]at hc;have hq2:(q||dW (r1++r2) og want)=C:=by rw[<-hq];simp only[dW,jr]
    have A:Aside (c+(aD (r1++r2) og).length=N/\(q||dW (r1++r2) og want)=C):=⟨hc,hq2⟩;have B:Aside (gF fQ gY _ r m l (r1++r2)/\dG fQ gY _ mw want/\ai [] w _):=⟨Jp,hW3,hO3.alloc (.cells #[.string og,.string nm] 418)⟩;clear hc hq hq2 hI hW hO hI2 hW2 hO2 hO3 Jp hW3 hC hN;go_wp2_with fail
    go_roundg(r1++r2).length
    case measure=>simp
    case rel=>exact⟨r1++r2,c,q,rfl,rfl,rfl,B.out.1,B.out.2.1,B.out.2.2,A.out.1,A.out.2⟩
   ·have XT:(og.toList==ow.toList)=false:=by rw[<-beq_toListBytes];simpa using ho
    have hp2:=ja (r1:=r1) (r2:=r2) (k:=k) (n:=nm) ho;have hc2:(c+1)+(aD (r1++r2) ow).length=N:=by have:=hp2.length_eq;simp at this;omega
    have hcl:dW (r1++(k,(og,nm))::r2) ow want=((aS want k).isSome||dW (r1++r2) ow want):=by
     unfold dW;rw[hp2.any_eq];rfl
    rw[hcl]at hq;have hNb:c+1<=1000000:=by omega
    cases hg:aS want k with
    |none=>
     have hlk:=hW3.lookup_no pV jJ k (NN _) hg true;simp only[if_true,fQ]at hlk;rw[hg]at hq;have A:Aside ((c+1)+(aD (r1++r2) ow).length=N/\(q||dW (r1++r2) ow want)=C):=⟨hc2,by simpa using hq⟩;have B:Aside (gF fQ gY _ r m l (r1++r2)/\dG fQ gY _ mw want/\ai [] w _):=
      ⟨Jp.own ((ai.refl [] _).alloc (.cells #[.string ⟨#[]⟩,.string ⟨#[]⟩] 418)) (by simp) (by simp),hW3.own ((ai.refl [] _).alloc (.cells #[.string ⟨#[]⟩,.string ⟨#[]⟩] 418)) (by simp),(hO3.alloc (.cells #[.string og,.string nm] 418)).alloc (.cells #[.string ⟨#[]⟩,.string ⟨#[]⟩] 418)⟩
     clear hc hq hc2 hI hW hO hI2 hW2 hO2 hO3 Jp hW3 hC hN hp2 hcl hg ho;go_wp2_with fail
     go_roundg(r1++r2).length
     case measure=>simp
     case rel=>exact⟨r1++r2,c+1,q,rfl,by go_num,rfl,B.out.1,B.out.2.1,B.out.2.2,A.out.1,A.out.2⟩
    |some s=>
     obtain⟨s1,s2⟩:=s;have hlk:=hW3.lookup_yes pV jJ k hg true;simp only[if_true,fQ,gY]at hlk;rw[hg]at hq;have A:Aside ((c+1)+(aD (r1++r2) ow).length=N/\(true||dW (r1++r2) ow want)=C):=⟨hc2,by simpa using hq⟩;have B:Aside (gF fQ gY _ r m l (r1++r2)/\dG fQ gY _ mw want/\ai [] w _):=
      ⟨Jp.own ((ai.refl [] _).alloc (.cells #[.string s1,.string s2] 418)) (by simp) (by simp),hW3.own ((ai.refl [] _).alloc (.cells #[.string s1,.string s2] 418)) (by simp),(hO3.alloc (.cells #[.string og,.string nm] 418)).alloc (.cells #[.string s1,.string s2] 418)⟩
     clear hc hq hc2 hI hW hO hI2 hW2 hO2 hO3 Jp hW3 hC hN hp2 hcl hg ho;go_wp2_with fail
     go_roundg(r1++r2).length
     case measure=>simp
     case rel=>exact⟨r1++r2,c+1,true,rfl,by go_num,rfl,B.out.1,B.out.2.1,B.out.2.2,A.out.1,A.out.2⟩
theorem uL{r1 r2:dN}{p:Int×pU}(h:((r1++p::r2).map (·.1)).Nodup): ∀q∈r1++r2,q.1≠p.1:=by
 have h2:=((List.perm_middle (a:=p) (l₁:=r1) (l₂:=r2)).map (·.1)).nodup_iff.1 h;simp only[List.map_cons,List.nodup_cons]at h2;exact fun q hq e=>h2.1 (by rw[<-e];exact List.mem_map_of_mem hq)
theorem NR{l dn r1 r2:dN}{p:Int×pU}(hp:l.Perm (dn++(r1++p::r2)))(hn:(l.map (·.1)).Nodup):(fD l p.1).Perm (dn++(r1++r2)):=by
 have h1:(fD l p.1).Perm (fD (dn++(r1++p::r2)) p.1):=hp.filter _;have hn2:(((dn++r1)++p::r2).map (·.1)).Nodup:=by
  have:=(hp.map (·.1)).nodup_iff.1 hn;simpa[List.append_assoc]using this
 have h2:=uL hn2;have e:fD (dn++(r1++p::r2)) p.1=dn++(r1++r2):=by
  unfold fD;rw[<-List.append_assoc,List.filter_append,List.filter_cons];have q1:(dn++r1).filter (fun q=> !(q.1==p.1))=dn++r1:=List.filter_eq_self.2 fun q hq=>by simpa using h2 q (List.mem_append_left _ hq)
  have q2:r2.filter (fun q=> !(q.1==p.1))=r2:=List.filter_eq_self.2 fun q hq=>by simpa using h2 q (List.mem_append_right _ hq)
  rw[q1,q2];simp
 rw[e]at h1;exact h1
theorem CQ(b m:Nat)(l:dN)(ow:ByteArray)(w:World)(h:sJ w b m l)(hcap:l.length<=1000000):
  Calls Tryz.prog 275 #[.pointer (some ⟨b,0,none⟩),.string ow] w fun e w'=>
   e=.returned (.int .i64 ((l.length-(aD l ow).length:Nat):Int))/\sJ w' b m (aD l ow)/\ai [m] w w':=by
 have hnd:=h.nodup;have hm:w.cell? ⟨b,0,none⟩=some (.map (some m)):=cell_of_row w b 0 _ _ _ h.row;obtain⟨w1,uj,QD,hI,hp,aH,hs1⟩:=h.map.range jJ;have hle:(aD l ow).length<=l.length:=List.length_filter_le _ _;have hmr:m<w.heap.size:=h.map.lt;have hbr:b<w.heap.size:=aj h.row;obtain⟨r,hr⟩: ∃r,w.heap.size=r:=⟨_,rfl⟩;rw[hr]at hI QD hmr hbr;have hrr:w.heap.size<=r:=by omega
 have wF:=h.ne;have Er:=h.row;clear hr h;replace hnd:=af hnd;obtain⟨D,hD⟩: ∃D,l.length-(aD l ow).length=D:=⟨_,rfl⟩;rw[hD];change Hid _ at hD;have hDb:D<=1000000:=by have:=hD.out;omega
 go_enter Tryz.func275,Tryz.ntmps275
 go_wp2_with(go_at_call 312;refine(jV _ _ _ hm).mono ?_;rintro e w' ⟨rfl,rfl⟩)
 go_loopg[5] uj.length (fun g n wr=> ∃(lc dn rem:dN) (c:Nat),g=rem.length/\n=.int .i64 c/\gF fQ gY wr r m lc rem/\ai [m] w wr/\lc.Perm (dn++rem)/\(dn++aD rem ow).Perm (aD l ow)/\(lc.map (·.1)).Nodup/\
  c+rem.length+(aD l ow).length=l.length+(aD rem ow).length)
 case atStart=>exact⟨l,[],uj,0,rfl,rfl,hI,aH.mono (by simp),by simpa using hp.symm,by simpa using jW hp ow,hnd.out,by rw[hp.length_eq,(jW hp ow).length_eq];omega⟩
 case round=>
  obtain⟨lc,dn,rem,c,rfl,rfl,hI,hO,hp1,hp2,hn1,hcnt⟩:=hrel;have hrl:=hI.lt;have hrow:=hO.heap Er (by simpa using wF);rcases hI.next Tryz.prog with⟨mQ,hnx⟩|⟨r1,r2,k,v,w2,mQ,hnx,hI2,hO2,hs2,hen⟩
  ·subst mQ
   have hcD:c=D:=by have:=hD.out;simp[aD]at hcnt;simp only[aD]at this hle;omega
   subst hcD;have hfin:sJ wr b m (aD l ow):=⟨wF,hrow,hI.map.perm (hp1.trans (by simpa[aD]using hp2))⟩;change Hid _ at hfin;clear hI hp1 hp2 hn1 hcnt hrow Er;go_wp2_with fail
   go_ret
   exact⟨rfl,hfin.out,hO⟩
  ·subst mQ
   obtain⟨og,nm⟩:=v;simp only[fQ,gY]at hnx hen;have hO3:=hO.trans' hO2 (by simp;omega);have Jp:=hI2.own ((ai.refl [] _).alloc (.cells #[.string og,.string nm] 418)) (by simp) (by simp);have hO4:=hO3.alloc (.cells #[.string og,.string nm] 418);by_cases ho:og=ow
   ·subst ho
    have hnk: ∀p∈r1++r2,p.1≠k:=by
     have hn2:((r1++(k,(og,nm))::r2).map (·.1)).Nodup:=by
      have:=(hp1.map (·.1)).nodup_iff.1 hn1;rw[List.map_append]at this;exact(List.nodup_append.1 this).2.1
     exact uL hn2
    obtain⟨w3,hdel,YV,aB,hs3⟩:=Jp.delete pV jJ k 51 hnk;have hp3:(fD lc k).Perm (dn++(r1++r2)):=NR (p:=(k,(og,nm))) hp1 hn1;have Uf:((fD lc k).map (·.1)).Nodup:=((List.filter_sublist (l:=lc)).map _).nodup hn1;rw[jr]at hp2 hcnt;have Es:(c+1)+(r1++r2).length+(aD l og).length=l.length+(aD (r1++r2) og).length:=by simp at hcnt⊢;omega
    have hcb:c+1<=1000001:=by
     have:=hD.out;have h1:(aD (r1++r2) og).length<=(r1++r2).length:=List.length_filter_le _ _;omega
    have bI:=hO4.trans aB;have hmc:(w2.alloc (.cells #[.string og,.string nm] 418)).cell? ⟨b,0,none⟩=some (.map (some m)):=
     cell_of_row _ b 0 _ _ _ (hO4.heap Er (by simpa using wF))
    simp only[fQ]at hdel;have A:Aside (gF fQ gY w3 r m (fD lc k) (r1++r2)/\ai [m] w w3/\(fD lc k).Perm (dn++(r1++r2))/\(dn++aD (r1++r2) og).Perm (aD l og)/\((fD lc k).map (·.1)).Nodup/\(c+1)+(r1++r2).length+(aD l og).length=l.length+(aD (r1++r2) og).length):=
     ⟨YV,bI,hp3,hp2,Uf,Es⟩
    clear hI hI2 Jp YV hO hO2 hO3 hO4 aB bI hp1 hp2 hp3 hn1 Uf hcnt Es hnk hrow Er;go_wp2_with fail
    go_roundg(r1++r2).length
    case measure=>simp
    case rel=>exact⟨_,dn,r1++r2,c+1,rfl,by go_num,A.out⟩
   ·have XT:(og.toList==ow.toList)=false:=by rw[<-beq_toListBytes];simpa using ho
    have za:lc.Perm (((k,(og,nm))::dn)++(r1++r2)):=hp1.trans (by
     refine(List.Perm.append_left dn List.perm_middle).trans ?_;exact List.perm_middle)
    have WA:(((k,(og,nm))::dn)++aD (r1++r2) ow).Perm (aD l ow):=
     (List.perm_middle.symm.trans (List.Perm.append_left dn (ja ho).symm)).trans hp2
    have Es:c+(r1++r2).length+(aD l ow).length=l.length+(aD (r1++r2) ow).length:=by
     have:=(ja (r1:=r1) (r2:=r2) (k:=k) (n:=nm) ho).length_eq;simp at this hcnt⊢;omega
    have A:Aside (gF fQ gY _ r m lc (r1++r2)/\ai [m] w _/\lc.Perm (((k,(og,nm))::dn)++(r1++r2))/\(((k,(og,nm))::dn)++aD (r1++r2) ow).Perm (aD l ow)/\(lc.map (·.1)).Nodup/\c+(r1++r2).length+(aD l ow).length=l.length+(aD (r1++r2) ow).length):=
     ⟨Jp,hO4,za,WA,hn1,Es⟩
    clear hI hI2 Jp hO hO2 hO3 hO4 hp1 hp2 za WA hn1 hcnt Es hrow Er ho;go_wp2_with fail
    go_roundg(r1++r2).length
    case measure=>simp
    case rel=>exact⟨_,_,r1++r2,c,rfl,rfl,A.out⟩
theorem NT(m mw:Nat)(base want:dN)(w:World)(hm:dG fQ gY w m base)(hw:dG fQ gY w mw want)(hne:m≠mw)(H7: ∀p∈want,aS base p.1=none):
  Calls Tryz.prog 297 #[.map (some m),.map (some mw)] w fun e w'=>
   e=.returned (.tuple #[])/\dG fQ gY w' m (base++want)/\ai [m] w w':=by
 have hnd:=hw.nodup pV;obtain⟨w1,uj,QD,hI,hp,aH,hs1⟩:=hw.range jJ;have hm1:=hm.own aH (by simp);have hmr:m<w.heap.size:=hm.lt;obtain⟨r,hr⟩: ∃r,w.heap.size=r:=⟨_,rfl⟩;rw[hr]at hI QD hmr;have hrr:w.heap.size<=r:=by omega
 clear hr hm hw;change Hid _ at H7 hp;replace hnd:=af hnd;go_enter Tryz.func297,Tryz.ntmps297
 go_wp2_with fail
 go_loopg[4] uj.length (fun g _k wr=> ∃(cur dn rem:dN),g=rem.length/\gF fQ gY wr r mw want rem/\dG fQ gY wr m cur/\ai [m] w wr/\cur.Perm (base++dn)/\want.Perm (dn++rem))
 case atStart=>exact⟨base,[],uj,rfl,hI,hm1,aH.mono (by simp),by simp,hp.out.symm⟩
 case round=>
  obtain⟨cur,dn,rem,rfl,hI,hM,hO,hp1,hp2⟩:=hrel;have hrl:=hI.lt;rcases hI.next Tryz.prog with⟨mQ,hnx⟩|⟨r1,r2,k,v,w2,mQ,hnx,hI2,hO2,hs2,hen⟩
  ·subst mQ
   have hfin:dG fQ gY wr m (base++want):=hM.perm (hp1.trans (List.Perm.append_left base (by simpa using hp2.symm)));change Hid _ at hfin;clear hI hM hp1 hp2;go_wp2_with fail
   go_end0
   exact⟨rfl,hfin.out,hO⟩
  ·subst mQ
   obtain⟨og,nm⟩:=v;simp only[fQ,gY]at hnx hen;have hO3:=hO.trans' hO2 (by simp;omega);have hM2:=hM.own hO2 (by simp;omega);have Jp:=hI2.own ((ai.refl [] _).alloc (.cells #[.string og,.string nm] 418)) (by simp) (by simp);have dY:=hM2.own ((ai.refl [] _).alloc (.cells #[.string og,.string nm] 418)) (by simp);have hO4:=hO3.alloc (.cells #[.string og,.string nm] 418);have WJ:(k,((og,nm):pU))∈want:=hp2.mem_iff.2 (by simp);have hnk:=uL (r1:=dn++r1) (r2:=r2) (p:=(k,((og,nm):pU))) (by
    have:=(hp2.map (·.1)).nodup_iff.1 hnd.out;simpa[List.append_assoc]using this)
   have hgn:aS cur k=none:=by
    rw[dL];intro p hp';rcases List.mem_append.1 (hp1.mem_iff.1 hp')with h1|h1
    ·exact(dL _ _).1 (H7.out _ WJ) p h1
    ·exact hnk p (List.mem_append_left _ (List.mem_append_left _ h1))
   obtain⟨w3,hup,Am,aB,hs3⟩:=dY.update pV jJ k ((og,nm):pU);rw[Cj hgn]at Am;have YV:=Jp.own aB (by simp;omega) (by simpa using hne.symm);simp only[fQ,gY]at hup;have A:Aside (gF fQ gY w3 r mw want (r1++r2)/\dG fQ gY w3 m (cur++[(k,(og,nm))])/\ai [m] w w3/\(cur++[(k,(og,nm))]).Perm (base++(dn++[(k,(og,nm))]))/\want.Perm ((dn++[(k,(og,nm))])++(r1++r2))):=
    ⟨YV,Am,hO4.trans aB,by rw[<-List.append_assoc];exact hp1.append_right _,hp2.trans (by rw[List.append_assoc];exact List.Perm.append_left dn List.perm_middle)⟩
   clear hI hI2 Jp YV hM hM2 dY Am hO hO2 hO3 hO4 aB hp1 hp2 hnk hgn WJ;go_wp2_with fail
   go_roundg(r1++r2).length
   case measure=>simp
   case rel=>exact⟨_,_,r1++r2,rfl,A.out⟩
end Go.Proofs.YtedcakchekaemaaGreatDoor
