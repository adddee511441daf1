/- SparkBorn: the births that are kept are those of the nodes and devices that are online, each with the last text taken: plain law and walk, for messages whose topics hold at most 1048576 bytes. -/
import Derived.Test.YtedcakchekaemaaGreatDoorMp37
set_option maxRecDepth 100000
set_option maxHeartbeats 16000000
set_option linter.all false
namespace Go.Proofs.YtedcakchekaemaaGreatDoor
open Go.RowKit
variable [Kd]
def o9(k:Rk):ByteArray:=(fE ⟨1,k.1,k.2,ax⟩).1
def xk(k:Rk)(d:ByteArray):ByteArray:=(fE ⟨5,k.1,k.2,d⟩).1
theorem kG{t:ByteArray}{s:jv}(h:bQ t=s)(hk:s.k≠0):fE s=(t,0):=by
 subst h;unfold bQ at hk⊢;split
 ·rename_i hc;exact Prod.ext hc.2 hc.1
 ·rename_i hc;rw[if_neg hc]at hk;exact absurd rfl hk
theorem xq{s:jv}{t:ByteArray}(h:fE s=(t,0)): ¬(s.k<1\/9<s.k)/\ ¬((fJ s.k<5/\s.d.size≠0)\/(s.k=9/\s.g.size≠0))/\(iM s).all gP=true/\jq t=true:=by
 unfold fE at h;split at h
 ·cases h
 rename_i h1
 split at h
 ·cases h
 rename_i h2
 split at h
 ·cases h
 rename_i h3
 split at h
 ·rename_i h4
  cases h;exact⟨h1,h2,by simpa using h3,h4⟩
 ·cases h
theorem vV:jq ax=false:=by
 unfold jq ng;rw[show ax.toList=[]by rw[Lib.toList_data];rfl];simp
theorem Xp{t:ByteArray}(h:jq t=true):t≠ax:=by
 rintro rfl;rw[vV]at h;cases h
theorem Dg{d:ByteArray}(h:d.size=0):d=ax:=by
 obtain⟨⟨l⟩⟩:=d;cases l with
 |nil=>rfl
 |cons x r=>simp[ByteArray.size]at h
theorem zU{t:ByteArray}{s:jv}(h:bQ t=s)(hk:s.k≠0):t≠ax:=Xp (xq (kG h hk)).2.2.2
theorem BI{t:ByteArray}{k:Int}{g n d:ByteArray}(h:bQ t=⟨k,g,n,d⟩)(h1:1<=k)(h4:k<5):d=ax:=by
 have hp:=xq (kG h (by show k≠0;omega));refine Dg ?_;by_cases hd:d.size=0
 ·exact hd
 ·refine absurd (.inl ⟨?_,hd⟩) hp.2.1
  show fJ k<5;unfold fJ;rw[if_neg (by omega),if_neg (by omega)];omega
theorem SV{t:ByteArray}{g n d:ByteArray}(h:bQ t=⟨5,g,n,d⟩):d≠ax:=by
 have hp:=(xq (kG h (by simp))).2.2.1;rintro rfl;unfold iM at hp;simp only[show¬((5:Int)=9)by decide,if_false,show(5:Int)<=5 by decide,if_true,List.all_cons,List.all_nil,Bool.and_true,Bool.and_eq_true]at hp;have h3:=hp.2.2;unfold gP at h3;rw[vV]at h3;cases h3
theorem Xq{t g n:ByteArray}(h:bQ t=⟨1,g,n,ax⟩):o9 (g,n)=t:=by
 unfold o9;rw[kG h (by simp)]
theorem Xr{t g n d:ByteArray}(h:bQ t=⟨5,g,n,d⟩):xk (g,n) d=t:=by
 unfold xk;rw[kG h (by simp)]
theorem xu{u:ByteArray}{s:jv}{t:ByteArray}(hs:bQ t=s)(hk:s.k≠0)(h9:s.k≠9)(hu:bQ u=⟨1,s.g,s.n,ax⟩):
  (s.d=ax->(bZ s).1=u)/\ ∀v,bQ v=⟨5,s.g,s.n,s.d⟩->(bZ s).1=u/\(bZ s).2=v:=by
 have e1:=kG hs hk;have e2:=kG hu (by simp);have hn: ¬((fE s).2≠0\/s.k=9):=by rw[e1];simp[h9]
 have hn2: ¬((fE ⟨1,s.g,s.n,ax⟩).2≠0):=by rw[e2];simp
 refine⟨fun hd=>?_,fun v hv=>?_⟩
 ·unfold bZ
  rw[if_neg hn,if_neg hn2,if_pos (by simp[hd]),e2]
 ·have e3:=kG hv (by simp)
  have hd:=SV hv;unfold bZ;rw[if_neg hn,if_neg hn2,if_neg (by simp[hd]),if_neg (by rw[e3];simp),e2,e3];exact⟨rfl,rfl⟩
theorem KY{u g n:ByteArray}(h:bQ u=⟨1,g,n,ax⟩):gW u=((u,ax),true):=by
 unfold gW;rw[h,if_pos rfl]
theorem JK{u v g n d:ByteArray}(hu:bQ u=⟨1,g,n,ax⟩)(hv:bQ v=⟨5,g,n,d⟩):gW v=((u,v),true):=by
 have hb:=(xu hv (by simp) (by simp) hu).2 v hv;have hne:=zU hu (by simp);unfold gW;rw[hv,if_neg (by simp),if_pos rfl,hb.1];simp[hne]
theorem FT(u:ByteArray)(r:Rk):qO (u,ax) r=(u==r.1):=by
 unfold qO;obtain⟨a,b⟩:=r;by_cases h:u=a
 ·subst h;simp
 ·have:((u,ax)==(a,b))=false:=by rw[beq_eq_false_iff_ne];intro e;exact h (Prod.mk.inj e).1
  simp[this]
theorem KZ{u v:ByteArray}(hv:v≠ax)(r:Rk):qO (u,v) r=((u,v)==r):=by
 unfold qO;have:(v==ax)=false:=by rw[beq_eq_false_iff_ne];exact hv
 simp[this]
theorem FU{L:List Bi}{k:Rk}{b:Bi}:b∈dG k L↔b∈L/\qO k b.rk=false:=by
 unfold dG rJ Bi.rk;rw[List.mem_filter];simp
theorem Dh{t x:ByteArray}{L:List Bi}{k:Rk}(hk:gW t=(k,true))(hl:L.length<40){b:Bi}:b∈(qP t x L).2↔b=⟨k.1,k.2,x⟩\/(b∈L/\qO k b.rk=false):=by
 unfold qP;rw[hk,if_neg (by simp)];have:=lF k L;rw[if_neg (by simp only;omega)];simp only[List.mem_append,List.mem_singleton];rw[<-FU];constructor
 ·rintro((h|h)|h)
  ·exact .inr (List.mem_of_mem_take h)
  ·exact .inl h
  ·exact .inr (List.mem_of_mem_drop h)
 ·rintro(h|h)
  ·exact .inl (.inr h)
  ·rw[<-List.take_append_drop (uK k (dG k L)) (dG k L)]at h
   rcases List.mem_append.1 h with h|h
   ·exact .inl (.inl h)
   ·exact .inr h
theorem BJ{t:ByteArray}{L:List Bi}{k:Rk}(hk:gW t=(k,true)){b:Bi}:b∈oO t L↔b∈L/\qO k b.rk=false:=by
 unfold oO;rw[hk,if_neg (by simp),FU]
def xw(s:EN)(d:ByteArray):Prop:= ∃x∈s.dev,x.on=true/\x.name=d
theorem aag{s:EN}(d:ByteArray): ¬xw {s with dev:=s.dev.map Fu} d:=by
 rintro⟨x,hx,h1,_⟩;obtain⟨y,_,rfl⟩:=List.mem_map.1 hx;cases h1
theorem Ob(r:Int×EN):(fe r).1=r.1/\(fe r).2.online=r.2.online/\(fe r).2.dev=r.2.dev:=by
 unfold fe;split<;>exact⟨rfl,rfl,rfl⟩
theorem rT{α:Type}{l:List α}{i:Nat}{y:α}(h:i<l.length)(hn:l.Nodup){x:α}:x∈l.set i y↔x=y\/(x∈l/\x≠l[i]):=by
 constructor
 ·intro hx
  obtain⟨j,hj,rfl⟩:=List.mem_iff_getElem.1 hx;rw[List.getElem_set];split
  ·exact .inl rfl
  ·rename_i hij
   rw[List.length_set]at hj;exact .inr ⟨List.getElem_mem hj,fun e=>hij ((List.getElem_inj hn).1 e).symm⟩
 ·rintro(rfl|⟨h1,h2⟩)
  ·exact List.mem_set h _
  ·obtain⟨j,hj,rfl⟩:=List.mem_iff_getElem.1 h1
   have hij:i≠j:=fun e=>by subst e;exact h2 rfl
   have:=List.getElem_mem (l:=l.set i y) (n:=j) (by simpa using hj);rw[List.getElem_set,if_neg hij]at this;exact this
theorem JL{s:EN}(h:jI s){dn:ByteArray}{x y:bS}(hx:s.dev[cu bS.name s.dev dn]?=some x)(hn:x.name=dn)(hy:y.name=dn)(d:ByteArray):
  (∃z∈s.dev.set (cu bS.name s.dev dn) y,z.on=true/\z.name=d)↔(d=dn/\y.on=true)\/(d≠dn/\xw s d):=by
 obtain⟨hi,he⟩:=List.getElem?_eq_some_iff.1 hx;have hnd:(s.dev.map bS.name).Nodup:=xJ h.1;have hnd':s.dev.Nodup:=by
  have h2:s.dev.Pairwise fun a b=>a.name≠b.name:=List.pairwise_map.1 hnd
  exact h2.imp fun hab e=>hab (by rw[e])
 have U6: ∀z∈s.dev,z.name=dn->z=x:=fun z hz hzn=>by
  have:=zx h.1 hz hzn;rw[hx]at this;exact(Option.some.inj this).symm
 constructor
 ·rintro⟨z,hz,h1,h2⟩
  rcases(rT hi hnd').1 hz with rfl|⟨hz2,hne⟩
  ·exact .inl ⟨h2.symm.trans hy,h1⟩
  ·exact .inr ⟨fun e=>hne ((U6 z hz2 (h2.trans e)).trans he.symm),z,hz2,h1,h2⟩
 ·rintro(⟨rfl,h1⟩|⟨h1,z,hz,h2,h3⟩)
  ·exact⟨y,(rT hi hnd').2 (.inl rfl),h1,hy⟩
  ·refine⟨z,(rT hi hnd').2 (.inr ⟨hz,fun e=>?_⟩),h2,h3⟩
   rw[he]at e;subst e;exact h1 (h3.symm.trans hn)
def BK(s:EN)(k:Int)(d:ByteArray)(e:EN):Prop:=
 (k=1/\e.online=true/\ ∀q,¬xw e q)\/(k=2/\s.online=true/\e.online=false/\ ∀q,¬xw e q)\/((k=3\/k=7)/\e.online=s.online/\ ∀q,xw e q↔xw s q)\/
 (k=5/\s.online=true/\e.online=true/\ ∀q,xw e q↔q=d\/xw s q)\/(k=6/\s.online=true/\e.online=true/\xw s d/\ ∀q,xw e q↔q≠d/\xw s q)
def xA(s e:EN):Prop:=e.online=s.online/\e.dev=s.dev
theorem SX{s:EN}(h:jI s)(k:Int)(d:ByteArray)(p:iI):((oQ s k d p).1=1/\BK s k d (oQ s k d p).2)\/((oQ s k d p).1≠1/\xA s (oQ s k d p).2):=by
 have lift: ∀r:Int×EN,(r.1=1/\BK s k d r.2)\/(r.1≠1/\xA s r.2)->((fe r).1=1/\BK s k d (fe r).2)\/((fe r).1≠1/\xA s (fe r).2):=fun r hr=>by
  obtain⟨h1,h2,h3⟩:=Ob r;have hq: ∀q,xw (fe r).2 q↔xw r.2 q:=fun q=>by unfold xw;rw[h3]
  unfold BK xA at*;simp only[h1,h2,h3,hq];exact hr
 have same: ∀r:Int×EN,r.1≠1->r.2=s->(r.1=1/\BK s k d r.2)\/(r.1≠1/\xA s r.2):=fun r h1 h2=>.inr ⟨h1,by rw[h2];exact⟨rfl,rfl⟩⟩
 unfold oQ;split
 ·rename_i hk
  refine lift _ ?_;unfold pU;split
  ·exact same _ (by simp) rfl
  split
  ·exact same _ (by simp) rfl
  split
  ·rename_i h1;exact same _ h1 rfl
  split
  ·rename_i h1;exact same _ h1 rfl
  ·exact .inl ⟨rfl,.inl ⟨hk,rfl,fun q ⟨x,hx,_⟩=>by simp at hx⟩⟩
 split
 ·rename_i hk
  refine lift _ ?_;unfold qg;split
  ·exact same _ (by simp) rfl
  split
  ·exact same _ (by simp) rfl
  ·rename_i h1
   simp only[not_or,Bool.not_eq_false]at h1;exact .inl ⟨rfl,.inr (.inl ⟨hk,h1.1,rfl,fun q hq=>aag (s:=s) q (by obtain⟨x,hx,h⟩:=hq;exact⟨x,hx,h⟩)⟩)⟩
 split
 ·rename_i hk
  refine lift _ ?_;unfold vD;split
  ·exact same _ (by simp) rfl
  split
  ·exact same _ (by simp) rfl
  split
  ·rename_i h1;exact same _ h1 rfl
  ·exact .inl ⟨rfl,.inr (.inr (.inl ⟨.inl hk,rfl,fun q=>Iff.rfl⟩))⟩
 split
 ·rename_i hk
  refine lift _ ?_;unfold kZ;split
  ·exact same _ (by simp) rfl
  rename_i hon
  split
  ·exact same _ (by simp) rfl
  split
  ·exact same _ (by simp) rfl
  split
  ·exact same _ (by simp) rfl
  split
  ·rename_i h1;exact same _ h1 rfl
  split
  ·rename_i h1;exact same _ h1 rfl
  ·refine .inl ⟨rfl,.inr (.inr (.inr (.inl ⟨hk,by simpa using hon,by simpa using hon,fun q=>?_⟩)))⟩
   unfold xw IY;cases hh:jH bS.name s.dev d with
   |true=>
    obtain⟨x,hx,hn⟩:=oN hh;rw[if_pos rfl];refine(JL h hx hn (y:=⟨d,true,(dB p.M).2⟩) rfl q).trans ?_;by_cases hq:q=d<;>simp[hq,xw]
   |false=>
    rw[if_neg (by simp)];have hsp: ∀z,z∈List.take (cu bS.name s.dev d) s.dev++[⟨d,true,(dB p.M).2⟩]++List.drop (cu bS.name s.dev d) s.dev↔z=⟨d,true,(dB p.M).2⟩\/z∈s.dev:=fun z=>by
     have e:=List.take_append_drop (cu bS.name s.dev d) s.dev;constructor
     ·intro hz
      simp only[List.mem_append,List.mem_singleton]at hz;rcases hz with(hz|hz)|hz
      ·exact .inr (List.mem_of_mem_take hz)
      ·exact .inl hz
      ·exact .inr (List.mem_of_mem_drop hz)
     ·rintro(rfl|hz)
      ·simp
      ·rw[<-e]at hz
       rcases List.mem_append.1 hz with hz|hz
       ·simp[hz]
       ·simp[hz]
    constructor
    ·rintro⟨z,hz,h1,h2⟩
     rcases(hsp z).1 hz with rfl|hz
     ·exact .inl h2.symm
     ·exact .inr ⟨z,hz,h1,h2⟩
    ·rintro(rfl|⟨z,hz,h1,h2⟩)
     ·exact⟨_,(hsp _).2 (.inl rfl),rfl,rfl⟩
     ·exact⟨z,(hsp z).2 (.inr hz),h1,h2⟩
 split
 ·rename_i hk
  refine lift _ ?_;unfold lg;split
  ·rename_i h1;exact same _ h1 rfl
  rename_i hl
  simp only[ne_eq,Decidable.not_not]at hl;obtain⟨l1,l2,⟨x,hx,hon,hn⟩,_⟩:=lG hl;rw[hx];refine .inl ⟨rfl,.inr (.inr (.inr (.inr ⟨hk,l1,l1,⟨x,List.mem_of_getElem? hx,hon,hn⟩,fun q=>?_⟩)))⟩;refine(JL h hx hn (y:=⟨x.name,false,x.items⟩) hn q).trans ?_;simp
 split
 ·rename_i hk
  refine lift _ ?_;unfold qf;split
  ·rename_i h1;exact same _ h1 rfl
  rename_i hl
  simp only[ne_eq,Decidable.not_not]at hl;obtain⟨l1,l2,⟨x,hx,hon,hn⟩,_⟩:=lG hl;rw[hx];simp only;split
  ·rename_i h1;exact same _ h1 rfl
  ·refine .inl ⟨rfl,.inr (.inr (.inl ⟨.inr hk,rfl,fun q=>?_⟩))⟩
   refine(JL h hx hn (y:=⟨x.name,true,(fZ (gK s.al d) p.M x.items).2⟩) hn q).trans ?_;by_cases hq:q=d
   ·subst hq
    simp only[true_and,ne_eq,not_true_eq_false,false_and,or_false,true_iff];exact⟨x,List.mem_of_getElem? hx,hon,hn⟩
   ·simp[hq]
 ·exact same _ (by simp) rfl
theorem SY{s:EN}(h:jI s)(k:Int)(d x:ByteArray):((fH s k d x).1=1/\BK s k d (fH s k d x).2)\/((fH s k d x).1≠1/\xA s (fH s k d x).2):=by
 unfold fH;split
 ·exact .inr ⟨by simp,rfl,rfl⟩
 ·exact SX h _ _ _
def Aq(p:Rk×EN)(r:Rk):Prop:=(p.2.online=true/\r=(o9 p.1,ax))\/ ∃d,xw p.2 d/\r=(o9 p.1,xk p.1 d)
structure Oc (S:SP):Prop where
 mem: ∀r,r∈S.bi.map Bi.rk↔ ∃p∈S.nodes,Aq p r
 nt: ∀p∈S.nodes,p.2.online=true->bQ (o9 p.1)=⟨1,p.1.1,p.1.2,ax⟩
 dt: ∀p∈S.nodes,∀d,xw p.2 d->bQ (xk p.1 d)=⟨5,p.1.1,p.1.2,d⟩
theorem Xt:Oc ⟨[],[],[],[],0⟩:=⟨by simp,by simp,by simp⟩
theorem xB{s:EN}(h:jI s){d:ByteArray}(hd:xw s d):s.online=true:=by
 obtain⟨x,hx,h1,_⟩:=hd;cases ho:s.online with
 |true=>rfl
 |false=>have:=(h.2 ho).2.2 x hx;rw[this]at h1;cases h1
theorem FV{α:Type}{k:Rk}{v:α}{p:Rk×α}: ∀{l:List (Rk×α)},(l.map (·.1)).Nodup->k∈l.map (·.1)->(p∈bX l k v↔p=(k,v)\/(p∈l/\p.1≠k))
 | [],_,h=>by simp at h
 |q::r,hn,h=>by
  rw[List.map_cons,List.nodup_cons]at hn;unfold bX;split
  ·rename_i hq
   have hq':q.1=k:=LawfulBEq.eq_of_beq hq;have hno: ∀y∈r,y.1≠k:=fun y hy e=>hn.1 (by rw[hq',<-e];exact List.mem_map.2 ⟨y,hy,rfl⟩)
   rw[List.mem_cons,List.mem_cons];constructor
   ·rintro(h|h)
    ·exact .inl h
    ·exact .inr ⟨.inr h,hno p h⟩
   ·rintro(h|⟨rfl|h,h2⟩)
    ·exact .inl h
    ·exact absurd hq' h2
    ·exact .inr h
  ·rename_i hq
   have hq':q.1≠k:=fun e=>hq (by rw[e];simp)
   have hk:k∈r.map (·.1):=by
    rcases List.mem_cons.1 h with h|h
    ·exact absurd h.symm hq'
    ·exact h
   rw[List.mem_cons,List.mem_cons,FV hn.2 hk];constructor
   ·rintro(rfl|h|⟨h1,h2⟩)
    ·exact .inr ⟨.inl rfl,hq'⟩
    ·exact .inl h
    ·exact .inr ⟨.inr h1,h2⟩
   ·rintro(h|⟨h1|h1,h2⟩)
    ·exact .inr (.inl h)
    ·exact .inl h1
    ·exact .inr (.inr ⟨h1,h2⟩)
def mH(l:List (ByteArray×ByteArray))(k:ByteArray):ByteArray:=l.foldl (fun a p=>if p.1=k then p.2 else a) ax
theorem rU(l:List (ByteArray×ByteArray))(t x k:ByteArray):mH (l++[(t,x)]) k=if t=k then x else mH l k:=by
 unfold mH;rw[List.foldl_append];rfl
def S9(S:SP)(l:List (ByteArray×ByteArray)):Prop:= ∀b∈S.bi,mH l (fA b)=b.t
theorem zV{S:SP}(B:Oc S)(hE: ∀p∈S.nodes,jI p.2){b:Bi}(hb:b∈S.bi):
  ((bQ (fA b)).k=1/\b.rk=(fA b,ax))\/((bQ (fA b)).k=5/\ ∃u,gW (fA b)=((u,fA b),true)/\b.rk=(u,fA b)):=by
 obtain⟨p,hp,h⟩:=(B.mem b.rk).1 (List.mem_map.2 ⟨b,hb,rfl⟩);rcases h with⟨h1,h2⟩|⟨d,h1,h2⟩
 ·have e0:b.k0=o9 p.1:=(Prod.mk.inj h2).1
  have e1:b.k1=ax:=(Prod.mk.inj h2).2;have hT:fA b=o9 p.1:=by unfold fA;rw[e1,if_pos (by simp),e0]
  rw[hT];exact .inl ⟨by rw[B.nt p hp h1],h2⟩
 ·have e0:b.k0=o9 p.1:=(Prod.mk.inj h2).1
  have e1:b.k1=xk p.1 d:=(Prod.mk.inj h2).2;have hs:=B.dt p hp d h1;have hne:=zU hs (by simp);have hT:fA b=xk p.1 d:=by unfold fA;rw[e1,if_neg (by simpa using hne)]
  rw[hT];exact .inr ⟨by rw[hs],o9 p.1,JK (B.nt p hp (xB (hE p hp) h1)) hs,h2⟩
theorem S9.more{S:SP}{l:List (ByteArray×ByteArray)}(T:S9 S l)(B:Oc S)(hE: ∀p∈S.nodes,jI p.2){t x:ByteArray}(hk:(bQ t).k≠1/\(bQ t).k≠5){L:List Bi}(hL: ∀b∈L,b∈S.bi):
  ∀b∈L,mH (l++[(t,x)]) (fA b)=b.t:=fun b hb=>by
 rw[rU,if_neg ?_]
 ·exact T b (hL b hb)
 ·rintro rfl
  rcases zV B hE (hL b hb)with h|h
  ·exact hk.1 h.1
  ·exact hk.2 h.1
theorem S9.put{S:SP}{l:List (ByteArray×ByteArray)}(T:S9 S l)(B:Oc S)(hE: ∀p∈S.nodes,jI p.2){t x:ByteArray}{k:Rk}(hk:gW t=(k,true))(hkt:fA ⟨k.1,k.2,x⟩=t)(h15:(bQ t).k=1/\k=(t,ax)\/(bQ t).k=5)
  (hl:S.bi.length<40): ∀b∈(qP t x S.bi).2,mH (l++[(t,x)]) (fA b)=b.t:=fun b hb=>by
 rw[rU];rcases(Dh hk hl).1 hb with rfl|⟨h1,h2⟩
 ·rw[if_pos hkt.symm]
 ·rw[if_neg ?_]
  ·exact T b h1
  ·rintro rfl
   have hc:qO k b.rk=true:=by
    rcases zV B hE h1 with⟨h3,h4⟩|⟨h3,u,h4,h5⟩
    ·rcases h15 with⟨h6,h7⟩|h6
     ·rw[h7,h4];exact wZ _
     ·rw[h3]at h6;simp at h6
    ·rw[h4]at hk
     rw[h5,<-(Prod.mk.inj hk).1];exact wZ _
   rw[hc]at h2;cases h2
theorem Ta{n:Nat}{S:SP}{l:List (ByteArray×ByteArray)}{s:jv}{at':Int}{t x:ByteArray}{e:EN}(H:jD n S)(hn:n<40)(B:Oc S)(T:S9 S l)(hs:bQ t=s)(hk0:s.k≠0)(JR:s.k≠9)(hm:((s.g,s.n),e)∈S.nodes):
  Oc (gQ S s at' t x e).2/\S9 (gQ S s at' t x e).2 (if(gQ S s at' t x e).1.code=1 then l++[(t,x)]else l):=by
 have hkm:(s.g,s.n)∈S.nodes.map (·.1):=List.mem_map.2 ⟨_,hm,rfl⟩;have hput: ∀e' p,p∈bX S.nodes (s.g,s.n) e'↔p=((s.g,s.n),e')\/(p∈S.nodes/\p.1≠(s.g,s.n)):=fun e' p=>FV H.nd hkm
 have U6: ∀p∈S.nodes,p.1=(s.g,s.n)->p=((s.g,s.n),e):=fun p hp hpk=>by
  have h1:=(hput e p).1;have h2: ∀{l:List (Rk×EN)} {a b:Rk×EN},(l.map (·.1)).Nodup->a∈l->b∈l->a.1=b.1->a=b:=by
   intro l;induction l with
   |nil=>intro a b _ ha;simp at ha
   |cons q r ih=>
    intro a b hnd ha hb hab;rw[List.map_cons,List.nodup_cons]at hnd;rcases List.mem_cons.1 ha with h1|h1<;>rcases List.mem_cons.1 hb with h2|h2
    ·rw[h1,h2]
    ·exact absurd (List.mem_map.2 ⟨b,h2,by rw[<-hab,h1]⟩) hnd.1
    ·exact absurd (List.mem_map.2 ⟨a,h1,by rw[hab,h2]⟩) hnd.1
    ·exact ih hnd.2 h1 h2 hab
  exact h2 H.nd hp hm hpk
 have he:=H.ei _ hm;have hE:=H.ei;have hl:S.bi.length<40:=by have:=H.few;omega
 have hu:e.online=true->bQ (o9 (s.g,s.n))=⟨1,s.g,s.n,ax⟩:=B.nt _ hm;have hd: ∀d,xw e d->bQ (xk (s.g,s.n) d)=⟨5,s.g,s.n,d⟩:=B.dt _ hm;have hoth: ∀{u:ByteArray},bQ u=⟨1,s.g,s.n,ax⟩-> ∀p∈S.nodes,p.1≠(s.g,s.n)-> ∀r,Aq p r->r.1≠u:=fun hu' p hp hpk r hr e0=>by
  have hon:p.2.online=true/\r.1=o9 p.1:=by
   rcases hr with⟨h1,h2⟩|⟨d,h1,h2⟩
   ·exact⟨h1,by rw[h2]⟩
   ·exact⟨xB (hE p hp) h1,by rw[h2]⟩
  have h1:=B.nt p hp hon.1;rw[<-hon.2,e0,hu']at h1;injection h1 with _ h2 h3
  exact hpk (Prod.ext h2.symm h3.symm)
 have hold: ∀r,r∈S.bi.map Bi.rk↔Aq ((s.g,s.n),e) r\/ ∃p∈S.nodes,p.1≠(s.g,s.n)/\Aq p r:=fun r=>by
  rw[B.mem r];constructor
  ·rintro⟨p,hp,hr⟩
   by_cases hpk:p.1=(s.g,s.n)
   ·rw[U6 p hp hpk]at hr;exact .inl hr
   ·exact .inr ⟨p,hp,hpk,hr⟩
  ·rintro(hr|⟨p,hp,_,hr⟩)
   ·exact⟨_,hm,hr⟩
   ·exact⟨p,hp,hr⟩
 have fin: ∀(e':EN) (S':SP),S'.nodes=bX S.nodes (s.g,s.n) e'->(∀r,r∈S'.bi.map Bi.rk↔Aq ((s.g,s.n),e') r\/ ∃p∈S.nodes,p.1≠(s.g,s.n)/\Aq p r)->
   (e'.online=true->bQ (o9 (s.g,s.n))=⟨1,s.g,s.n,ax⟩)->(∀d,xw e' d->bQ (xk (s.g,s.n) d)=⟨5,s.g,s.n,d⟩)->Oc S':=fun e' S' h1 h2 h3 h4=>by
  refine⟨fun r=>?_,fun p hp=>?_,fun p hp=>?_⟩
  ·rw[h2 r,h1]
   constructor
   ·rintro(hr|⟨p,hp,hpk,hr⟩)
    ·exact⟨_,(hput e' _).2 (.inl rfl),hr⟩
    ·exact⟨p,(hput e' _).2 (.inr ⟨hp,hpk⟩),hr⟩
   ·rintro⟨p,hp,hr⟩
    rcases(hput e' p).1 hp with rfl|⟨hp,hpk⟩
    ·exact .inl hr
    ·exact .inr ⟨p,hp,hpk,hr⟩
  ·rw[h1]at hp
   rcases(hput e' p).1 hp with rfl|⟨hp,_⟩
   ·exact h3
   ·exact B.nt p hp
  ·rw[h1]at hp
   rcases(hput e' p).1 hp with rfl|⟨hp,_⟩
   ·exact h4
   ·exact B.dt p hp
 have stay: ∀(e':EN) (S':SP),S'.nodes=bX S.nodes (s.g,s.n) e'->S'.bi=S.bi->e'.online=e.online->(∀q,xw e' q↔xw e q)->Oc S':=fun e' S' h1 h2 h3 h4=>
  fin e' S' h1 (fun r=>by rw[h2,hold r];unfold Aq;simp only[h3,h4]) (by rw[h3];exact hu) (fun d=>by rw[h4];exact hd d)
 have hon:=SY he s.k s.d x;unfold gQ;generalize fH e s.k s.d x=V at hon⊢;rcases hon with⟨h1,hR⟩|⟨h1,h2,h3⟩
 ·rw[if_pos h1]
  simp only[if_true];have rkm: ∀{L:List Bi} {P:Rk->Prop} {Q:Bi->Prop},(∀b,b∈L↔Q b)->(∀r,(∃b,Q b/\b.rk=r)↔P r)-> ∀r,r∈L.map Bi.rk↔P r:=fun hL hP r=>by
   rw[List.mem_map,<-hP r];constructor
   ·rintro⟨b,hb,e⟩;exact⟨b,(hL b).1 hb,e⟩
   ·rintro⟨b,hb,e⟩;exact⟨b,(hL b).2 hb,e⟩
  have adR: ∀{k:Rk} {x:ByteArray},(∀b,b∈(qP t x S.bi).2↔b=⟨k.1,k.2,x⟩\/(b∈S.bi/\qO k b.rk=false))-> ∀r,r∈(qP t x S.bi).2.map Bi.rk↔r=k\/(r∈S.bi.map Bi.rk/\qO k r=false):=fun hL=>rkm hL fun r=>by
   constructor
   ·rintro⟨b,rfl|⟨hb,hc⟩,rfl⟩
    ·exact .inl rfl
    ·exact .inr ⟨List.mem_map.2 ⟨b,hb,rfl⟩,hc⟩
   ·rintro(rfl|⟨hr,hc⟩)
    ·exact⟨_,.inl rfl,rfl⟩
    ·obtain⟨b,hb,rfl⟩:=List.mem_map.1 hr
     exact⟨b,.inr ⟨hb,hc⟩,rfl⟩
  have Zf: ∀{u:ByteArray} {k:Rk},(∀b,b∈oO u S.bi↔b∈S.bi/\qO k b.rk=false)-> ∀r,r∈(oO u S.bi).map Bi.rk↔r∈S.bi.map Bi.rk/\qO k r=false:=fun hL=>rkm hL fun r=>by
   constructor
   ·rintro⟨b,⟨hb,hc⟩,rfl⟩;exact⟨List.mem_map.2 ⟨b,hb,rfl⟩,hc⟩
   ·rintro⟨hr,hc⟩
    obtain⟨b,hb,rfl⟩:=List.mem_map.1 hr;exact⟨b,⟨hb,hc⟩,rfl⟩
  obtain⟨sk,sg,sn,sd⟩:=s;simp only at*;rcases hR with⟨rfl,r1,r2⟩|⟨rfl,r0,r1,r2⟩|⟨hk,r1,r2⟩|⟨rfl,r0,r1,r2⟩|⟨rfl,r0,r1,r3,r2⟩
  ·
   have hsd:=BI hs (by simp) (by simp);subst hsd;have ht:o9 (sg,sn)=t:=Xq hs;have YB:=KY hs;have hmem:=adR (x:=x) (fun b=>Dh YB hl);have gX:iB ⟨1,sg,sn,ax⟩ t x S.bi=(qP t x S.bi).2:=by unfold iB;rw[if_pos (.inl rfl)]
   refine⟨fin V.2 _ rfl (fun r=>?_) (fun _=>by rw[ht];exact hs) (fun d hd=>absurd hd (r2 d)),?_⟩
   ·simp only
    rw[gX,hmem r,hold r,FT];constructor
    ·rintro(rfl|⟨hr,hc⟩)
     ·exact .inl (.inl ⟨r1,by rw[ht]⟩)
     ·rcases hr with hr|hr
      ·exfalso
       have:r.1=t:=by rcases hr with⟨_,rfl⟩|⟨d,_,rfl⟩<;>exact ht
       rw[this]at hc;simp at hc
      ·exact .inr hr
    ·rintro(hr|⟨p,hp,hpk,hr⟩)
     ·rcases hr with⟨_,rfl⟩|⟨d,hd',_⟩
      ·exact .inl (by rw[ht])
      ·exact absurd hd' (r2 d)
     ·refine .inr ⟨.inr ⟨p,hp,hpk,hr⟩,?_⟩
      rw[beq_eq_false_iff_ne];exact fun e=>hoth hs p hp hpk r hr e.symm
   ·have hP:=T.put (x:=x) B hE YB (by unfold fA;rw[if_pos (by simp)]) (.inl ⟨by rw[hs],rfl⟩) hl
    rw[<-gX]at hP;exact hP
  ·
   have hu':=hu r0;have YB:=KY hu';have hb1:(bZ ⟨2,sg,sn,sd⟩).1=o9 (sg,sn):=(xu hs (by simp) (by simp) hu').1 (BI hs (by simp) (by simp));have gX:iB ⟨2,sg,sn,sd⟩ t x S.bi=oO (o9 (sg,sn)) S.bi:=by unfold iB;rw[if_neg (by simp),if_pos rfl,hb1]
   have hmb:=fun b=>BJ (b:=b) (L:=S.bi) YB
   have hmem:=Zf hmb;refine⟨fin V.2 _ rfl (fun r=>?_) (fun h=>by rw[r1]at h;cases h) (fun d hd=>absurd hd (r2 d)),?_⟩
   ·simp only
    rw[gX,hmem r,hold r,FT];constructor
    ·rintro⟨hr,hc⟩
     rcases hr with hr|hr
     ·exfalso
      have:r.1=o9 (sg,sn):=by rcases hr with⟨_,rfl⟩|⟨d,_,rfl⟩<;>rfl
      rw[this]at hc;simp at hc
     ·exact .inr hr
    ·rintro(hr|⟨p,hp,hpk,hr⟩)
     ·rcases hr with⟨h,_⟩|⟨d,hd',_⟩
      ·rw[r1]at h;cases h
      ·exact absurd hd' (r2 d)
     ·refine⟨.inr ⟨p,hp,hpk,hr⟩,?_⟩
      rw[beq_eq_false_iff_ne];exact fun e=>hoth hu' p hp hpk r hr e.symm
   ·have hP:=T.more (t:=t) (x:=x) B hE (by rw[hs];exact⟨by simp,by simp⟩) (fun b hb=>((hmb b).1 hb).1)
    rw[<-gX]at hP;exact hP
  ·
   have gX:iB ⟨sk,sg,sn,sd⟩ t x S.bi=S.bi:=by
    unfold iB;rw[if_neg (by rcases hk with rfl|rfl<;>simp),if_neg (by rcases hk with rfl|rfl<;>simp),if_neg (by rcases hk with rfl|rfl<;>simp)]
   refine⟨stay V.2 _ rfl gX r1 r2,?_⟩;have hP:=T.more (t:=t) (x:=x) B hE (by rw[hs];rcases hk with rfl|rfl<;>exact⟨by simp,by simp⟩) (L:=S.bi) (fun b hb=>hb);rw[<-gX]at hP;exact hP
  ·
   have hu':=hu r0;have YB:=JK hu' hs;have ht:xk (sg,sn) sd=t:=Xr hs;have hne:=zU hs (by simp);have hmem:=adR (x:=x) (fun b=>Dh YB hl);have gX:iB ⟨5,sg,sn,sd⟩ t x S.bi=(qP t x S.bi).2:=by unfold iB;rw[if_pos (.inr rfl)]
   refine⟨fin V.2 _ rfl (fun r=>?_) (fun _=>hu') (fun d hd'=>?_),?_⟩
   ·simp only
    rw[gX,hmem r,hold r,KZ hne];constructor
    ·rintro(rfl|⟨hr,hc⟩)
     ·exact .inl (.inr ⟨sd,(r2 sd).2 (.inl rfl),by rw[ht]⟩)
     ·rcases hr with hr|hr
      ·rcases hr with⟨_,rfl⟩|⟨d,h,rfl⟩
       ·exact .inl (.inl ⟨r1,rfl⟩)
       ·exact .inl (.inr ⟨d,(r2 d).2 (.inr h),rfl⟩)
      ·exact .inr hr
    ·intro hr
     by_cases hrt:r=(o9 (sg,sn),t)
     ·exact .inl hrt
     ·refine .inr ⟨?_,by rw[beq_eq_false_iff_ne];exact fun e=>hrt e.symm⟩
      rcases hr with hr|hr
      ·rcases hr with⟨_,rfl⟩|⟨d,h,rfl⟩
       ·exact .inl (.inl ⟨r0,rfl⟩)
       ·rcases(r2 d).1 h with rfl|h
        ·exact absurd (by rw[ht]) hrt
        ·exact .inl (.inr ⟨d,h,rfl⟩)
      ·exact .inr hr
   ·rcases(r2 d).1 hd' with rfl|h
    ·rw[ht];exact hs
    ·exact hd d h
   ·have hP:=T.put (x:=x) B hE YB (by unfold fA;rw[if_neg (by simpa using hne)]) (.inr (by rw[hs])) hl
    rw[<-gX]at hP;exact hP
  ·
   have hu':=hu r0;have hv:=hd sd r3;have YB:=JK hu' hv;have hne:=zU hv (by simp);have hb1:(bZ ⟨6,sg,sn,sd⟩).2=xk (sg,sn) sd:=((xu hs (by simp) (by simp) hu').2 _ hv).2;have gX:iB ⟨6,sg,sn,sd⟩ t x S.bi=oO (xk (sg,sn) sd) S.bi:=by unfold iB;rw[if_neg (by simp),if_neg (by simp),if_pos rfl,hb1]
   have hmb:=fun b=>BJ (b:=b) (L:=S.bi) YB
   have hmem:=Zf hmb;refine⟨fin V.2 _ rfl (fun r=>?_) (fun _=>hu') (fun d hd'=>hd d ((r2 d).1 hd').2),?_⟩
   ·simp only
    rw[gX,hmem r,hold r,KZ hne];constructor
    ·rintro⟨hr,hc⟩
     rw[beq_eq_false_iff_ne]at hc;rcases hr with hr|hr
     ·rcases hr with⟨_,rfl⟩|⟨d,h,rfl⟩
      ·exact .inl (.inl ⟨r1,rfl⟩)
      ·exact .inl (.inr ⟨d,(r2 d).2 ⟨fun e=>hc (by rw[e]),h⟩,rfl⟩)
     ·exact .inr hr
    ·rintro(hr|⟨p,hp,hpk,hr⟩)
     ·rcases hr with⟨_,rfl⟩|⟨d,h,rfl⟩
      ·refine⟨.inl (.inl ⟨r0,rfl⟩),?_⟩
       rw[beq_eq_false_iff_ne];exact fun e=>hne (Prod.mk.inj e).2
      ·obtain⟨h1',h2'⟩:=(r2 d).1 h
       refine⟨.inl (.inr ⟨d,h2',rfl⟩),?_⟩;rw[beq_eq_false_iff_ne];intro e;have e2:=(Prod.mk.inj e).2;have e3:=hd d h2';rw[<-e2,hv]at e3;injection e3 with _ _ _ e4
       exact h1' e4.symm
     ·refine⟨.inr ⟨p,hp,hpk,hr⟩,?_⟩
      rw[beq_eq_false_iff_ne];exact fun e=>hoth hu' p hp hpk r hr (by rw[<-e])
   ·have hP:=T.more (t:=t) (x:=x) B hE (by rw[hs];exact⟨by simp,by simp⟩) (fun b hb=>((hmb b).1 hb).1)
    rw[<-gX]at hP;exact hP
 ·rw[if_neg h1]
  have hq: ∀q,xw V.2 q↔xw e q:=fun q=>by unfold xw;rw[h3]
  split
  all_goals first
   |exact⟨stay V.2 _ rfl rfl h2 hq,T⟩
   |exact⟨stay V.2 _ rfl rfl h2 hq,by rw[if_neg h1];exact T⟩
theorem Td{n:Nat}{S:SP}{l:List (ByteArray×ByteArray)}(H:jD n S)(hn:n<40)(B:Oc S)(T:S9 S l)(at':Int)(t x:ByteArray):
  Oc (aH S at' t x).2/\S9 (aH S at' t x).2 (if(aH S at' t x).1.code=1 then l++[(t,x)]else l):=by
 unfold aH;split
 ·exact⟨B,by rw[if_neg (by simp)];exact T⟩
 rename_i h0
 have hk0:(bQ t).k≠0:=fun e=>h0 (by rw[e];rfl)
 split
 ·rename_i h9
  refine⟨⟨B.mem,B.nt,B.dt⟩,?_⟩;simp only;split
  ·exact T.more B H.ei (by rw[h9];exact⟨by simp,by simp⟩) (fun b hb=>hb)
  ·exact T
 ·rename_i h9
  split
  ·exact⟨B,by rw[if_neg (by simp)];exact T⟩
  ·rename_i p hp
   obtain⟨h1,h2⟩:=rQ H hp;refine Ta h1 hn ?_ ?_ rfl hk0 h9 h2
   ·rcases kE hp with⟨_,e⟩|⟨_,_,rfl⟩
    ·rw[e];exact B
    ·have hno: ∀r,¬Aq (((bQ t).g,(bQ t).n),qH) r:=by
      rintro r (⟨h,_⟩|⟨d,⟨y,hy,_⟩,_⟩)
      ·cases h
      ·simp[qH]at hy
     refine⟨fun r=>?_,fun q hq=>?_,fun q hq=>?_⟩
     ·rw[B.mem r]
      constructor
      ·rintro⟨q,hq,hr⟩;exact⟨q,List.mem_append_left _ hq,hr⟩
      ·rintro⟨q,hq,hr⟩
       rcases List.mem_append.1 hq with hq|hq
       ·exact⟨q,hq,hr⟩
       ·rw[List.mem_singleton]at hq;subst hq;exact absurd hr (hno r)
     ·rcases List.mem_append.1 hq with hq|hq
      ·exact B.nt q hq
      ·rw[List.mem_singleton]at hq;subst hq;exact fun h=>by cases h
     ·rcases List.mem_append.1 hq with hq|hq
      ·exact B.dt q hq
      ·rw[List.mem_singleton]at hq;subst hq
       rintro d ⟨y,hy,_⟩;simp[qH]at hy
   ·rcases kE hp with⟨_,e⟩|⟨_,_,rfl⟩
    ·rw[e];exact T
    ·exact T
def Od(e:EN):Nat:=(if e.online=true then 1 else 0)+(e.dev.filter (·.on)).length
def tZ(p:Rk×EN):List Rk:=(if p.2.online=true then[(o9 p.1,ax)]else[])++(p.2.dev.filter (·.on)).map fun x=>(o9 p.1,xk p.1 x.name)
theorem BM{p:Rk×EN}{r:Rk}:r∈tZ p↔Aq p r:=by
 unfold tZ Aq xw;rw[List.mem_append];constructor
 ·rintro(h|h)
  ·split at h
   ·rename_i ho;exact .inl ⟨ho,by simpa using h⟩
   ·simp at h
  ·obtain⟨x,hx,rfl⟩:=List.mem_map.1 h
   obtain⟨h1,h2⟩:=List.mem_filter.1 hx;exact .inr ⟨x.name,⟨x,h1,h2,rfl⟩,rfl⟩
 ·rintro(⟨h1,rfl⟩|⟨d,⟨x,h1,h2,rfl⟩,rfl⟩)
  ·rw[if_pos h1];exact .inl (by simp)
  ·exact .inr (List.mem_map.2 ⟨x,List.mem_filter.2 ⟨h1,h2⟩,rfl⟩)
theorem Oe(p:Rk×EN):(tZ p).length=Od p.2:=by
 unfold tZ Od;rw[List.length_append,List.length_map];split<;>rfl
theorem JM{n:Nat}{S:SP}(H:jD n S)(B:Oc S):S.bi.length=(S.nodes.map fun p=>Od p.2).sum:=by
 have agx:(S.bi.map Bi.rk).Nodup:=by
  have hbs:S.bi.Pairwise fun a b=>dH a.rk b.rk:=H.bs
  have h:S.bi.Pairwise fun a b=>a.rk≠b.rk:=by
   refine List.Pairwise.imp ?_ hbs;intro a b hab e;rw[e]at hab;exact nX _ hab
  exact List.pairwise_map.2 h
 have hself: ∀p∈S.nodes,(tZ p).Nodup:=fun p hp=>by
  unfold tZ;have hd:((p.2.dev.filter (·.on)).map fun x=>(o9 p.1,xk p.1 x.name)).Nodup:=by
   have h0:(p.2.dev.map bS.name).Nodup:=xJ (H.ei p hp).1;have h1:p.2.dev.Pairwise fun a b=>a.name≠b.name:=List.pairwise_map.1 h0
   have h2:(p.2.dev.filter (·.on)).Pairwise fun a b=>a.name≠b.name:=h1.sublist List.filter_sublist
   refine List.pairwise_map.2 (List.Pairwise.imp_of_mem ?_ h2);intro a b ha hb hab e;obtain⟨ha1,ha2⟩:=List.mem_filter.1 ha;obtain⟨hb1,hb2⟩:=List.mem_filter.1 hb;have e2:=(Prod.mk.inj e).2;have ea:=B.dt p hp a.name ⟨a,ha1,ha2,rfl⟩;have eb:=B.dt p hp b.name ⟨b,hb1,hb2,rfl⟩;rw[e2,eb]at ea;injection ea with _ _ _ e4
   exact hab e4.symm
  split
  ·rw[List.singleton_append,List.nodup_cons]
   refine⟨fun h=>?_,hd⟩;obtain⟨x,hx,e⟩:=List.mem_map.1 h;obtain⟨h1,h2⟩:=List.mem_filter.1 hx;exact zU (B.dt p hp x.name ⟨x,h1,h2,rfl⟩) (by simp) (Prod.mk.inj e).2
  ·exact hd
 have agy:(S.nodes.flatMap tZ).Nodup:=by
  have hk:S.nodes.Pairwise fun p q=>p.1≠q.1:=List.pairwise_map.1 H.nd
  unfold List.Nodup;rw[List.pairwise_flatMap];refine⟨hself,List.Pairwise.imp_of_mem ?_ hk⟩;intro p q hp hq hpq a ha b hb e;subst e;have key: ∀p∈S.nodes,a∈tZ p->bQ a.1=⟨1,p.1.1,p.1.2,ax⟩:=fun p hp h=>by
   rcases BM.1 h with⟨h1,rfl⟩|⟨d,h1,rfl⟩
   ·exact B.nt p hp h1
   ·exact B.nt p hp (xB (H.ei p hp) h1)
  have e1:=key p hp ha;rw[key q hq hb]at e1;injection e1 with _ e2 e3
  exact hpq (Prod.ext e2.symm e3.symm)
 have hiff: ∀r,r∈S.bi.map Bi.rk↔r∈S.nodes.flatMap tZ:=fun r=>by
  rw[B.mem r,List.mem_flatMap];simp only[BM]
 have h1:=lK agx (fun r hr=>(hiff r).1 hr);have h2:=lK agy (fun r hr=>(hiff r).2 hr);have h3:(S.nodes.flatMap tZ).length=(S.nodes.map fun p=>Od p.2).sum:=by
  rw[List.length_flatMap];simp only[Oe]
 rw[List.length_map]at h1 h2;omega
theorem FW{B:Nat}{w5:World}{av:Option Addr}{n cv:Nat}{TV:List gN}(h:Sl 38 rR 8 B w5 (.slice av n cv) TV){j:Nat}(hj:j<TV.length): ∃gv,av=some ⟨gv,0,none⟩/\ ∀W,ai [] w5 W->W.cell? ⟨gv,j*8+2,none⟩=some (.bool TV[j].s.online)/\W.cell? ⟨gv,j*8+7,none⟩=some (.slice TV[j].va TV[j].V.length TV[j].vc):=by
 rcases h.form with⟨_,h2⟩|⟨g,cap,h1,h2,hR⟩
 ·rw[h2]at hj;simp at hj
 ·cases h1
  refine⟨g,rfl,fun W ho=>⟨?_,?_⟩⟩
  ·exact(hR.own ho (by simp)).cell kF (c:=2) (List.getElem?_eq_getElem hj) rfl
  ·exact(hR.own ho (by simp)).cell kF (c:=7) (List.getElem?_eq_getElem hj) rfl
theorem Og{B:Nat}{w5:World}{x:gN}(h:iY B w5 x){q:Nat}(hq:q<x.V.length): ∃gd y,x.va=some ⟨gd,0,none⟩/\x.s.dev[q]?=some y/\ ∀W,ai [] w5 W->W.cell? ⟨gd,q*3+1,none⟩=some (.bool y.on):=by
 have hqd:q<x.s.dev.length:=by rw[<-h.dvs.1];exact hq
 obtain⟨k1,k2,k3,k4⟩:=h.dvs.2 q _ _ (List.getElem?_eq_getElem hq) (List.getElem?_eq_getElem hqd);rcases h.sl.form with⟨_,h2⟩|⟨g,cap,h1,h2,hR⟩
 ·rw[h2]at hq;simp at hq
 ·injection h1 with h1
  refine⟨g,_,h1,List.getElem?_eq_getElem hqd,fun W ho=>?_⟩;have:=(hR.own ho (by simp)).cell (fun x=>rfl) (c:=1) (List.getElem?_eq_getElem hq) rfl;rw[this,<-k2]
def uN(TV:List gN)(j:Nat):Nat:=((TV.take j).map fun x=>Od x.s).sum
def xC(D:List bS)(q:Nat):Nat:=((D.take q).filter (·.on)).length
theorem Oh{TV:List gN}{j:Nat}(h:j<TV.length):uN TV (j+1)=uN TV j+Od TV[j].s:=by
 unfold uN;rw[List.take_add_one,List.getElem?_eq_getElem h,List.map_append,List.sum_append];simp only[Option.toList_some,List.map_cons,List.map_nil,List.sum_cons,List.sum_nil,Nat.add_zero]
theorem Oi{D:List bS}{q:Nat}{y:bS}(h:D[q]?=some y):xC D (q+1)=xC D q+if y.on=true then 1 else 0:=by
 unfold xC;rw[List.take_add_one,h];simp only[Option.toList_some,List.filter_append,List.length_append];cases hy:y.on<;>simp[hy]
theorem Te{TV:List gN}{S:SP}(h:(TV.map gN.say).Perm S.nodes):uN TV TV.length=(S.nodes.map fun p=>Od p.2).sum:=by
 unfold uN;rw[List.take_length];have:=(h.map fun p=>Od p.2).sum_nat;rw[List.map_map]at this;exact this
theorem Xu{TV:List gN}{S:SP}(h:(TV.map gN.say).Perm S.nodes)(hc:S.bi.length=(S.nodes.map fun p=>Od p.2).sum)(hb:S.bi.length<=40):uN TV TV.length=S.bi.length/\ ∀j,uN TV j<=40:=by
 have h1:=Te h;refine⟨by omega,fun j=>?_⟩;have h2:uN TV j<=uN TV TV.length:=by
  unfold uN;rw[List.take_length];have e:TV.map (fun x=>Od x.s)=(TV.take j).map (fun x=>Od x.s)++(TV.drop j).map (fun x=>Od x.s):=by rw[<-List.map_append,List.take_append_drop]
  rw[e,List.sum_append];omega
 omega
structure rV (w0 wr:World) (n:Nat) (K:aW) (L:List (ByteArray×ByteArray)) (v4:Value):Prop where
 sk:tC w0 wr n K
 la:Sl 43 lU 2 w0.heap.size wr v4 L
 a4: ∀b,v4.ownBlock=some b->b∉K.feet
section
variable {w0 wr w2 : World} {n m : Nat} {K K' : aW} {L L' : List (ByteArray × ByteArray)} {v4 v' : Value}
theorem rV.nil'(H:rV w0 wr n K L v4)(ho:ai [] wr w2):rV w0 w2 n K L v4:=⟨H.sk.nil' ho,H.la.nil' ho,H.a4⟩
theorem rV.take(H:rV w0 wr n K L v4)(hk:tC w0 w2 m K')(ho:ai K.feet wr w2)(hf: ∀z∈K'.feet,z∈K.feet\/wr.heap.size<=z):rV w0 w2 m K' L v4:=by
 refine⟨hk,H.la.own ho (fun b hb=>H.a4 b hb),fun b hb hx=>?_⟩;rcases hf b hx with h1|h1
 ·exact H.a4 b hb h1
 ·have:=(H.la.block hb).2;omega
theorem rV.push(H:rV w0 wr n K L v4)(hS:Sl 43 lU 2 w0.heap.size w2 v' L')(hg: ∀g,v'.ownBlock=some g->v4.ownBlock=some g\/wr.heap.size<=g)(ho:ai v4.ownBlock.toList wr w2):rV w0 w2 n K L' v':=by
 refine⟨H.sk.ow ho (fun z hz hx=>H.a4 z (Option.mem_toList.1 hx) hz) (fun z hz=>(H.la.block (Option.mem_toList.1 hz)).1),hS,fun b hb hx=>?_⟩;rcases hg b hb with h1|h1
 ·exact H.a4 b h1 hx
 ·have:=(H.sk.lt b hx).2;omega
theorem Oj{w w':World}{K:aW}(H:tC w w' 0 K):rV w w' 0 K [] (.slice none 0 0):=⟨H,Sl.nil _ _ _,fun b hb=>(by cases hb)⟩
end
theorem FX{L:List (ByteArray×ByteArray)}{r:Nat}(h:r<L.length)(k:ByteArray):mH (L.take (r+1)) k=if(L[r].1.toList==k.toList)=true then L[r].2 else mH (L.take r) k:=by
 rw[List.take_add_one,List.getElem?_eq_getElem h];simp only[Option.toList_some];rw[show L[r]=(L[r].1,L[r].2)from rfl,rU];by_cases he:L[r].1=k
 ·rw[if_pos he,if_pos (by rw[he];simp)]
 ·rw[if_neg he,if_neg (fun hh=>he (dA (by simpa using hh)))]
theorem JN{S:SP}{l:List (ByteArray×ByteArray)}(T:S9 S l){q:Nat}(h:q<(S.bi.map iV).length):mH l (S.bi.map iV)[q].1=(S.bi.map iV)[q].2:=by
 rw[List.getElem_map];exact T _ (List.getElem_mem _)
theorem Ol(a0:Option Addr)(n0 c0:Nat)(ms:Nat->xW)(w:World)(h0:Dc w a0 n0 ms)(hL:mF w)
  (hA: ∀W,ai [] w W->Calls Tryz.prog 11 #[] W fun e w'=>e=.returned (.bool true)/\ai [] W w'):
  Calls Tryz.prog 4 #[.slice a0 n0 c0] w fun e w'=>e=.returned (.bool true)/\Below w.heap.size w w':=by
 have hl0:n0<=9223372036854775807:=by have:=h0.1;simp only[maxLen]at this;omega
 have cN:=af (JE w w (ai.refl _ _));replace h0:=af h0;replace hA:=af hA;replace hL:=af hL;go_enter Tryz.func4,Tryz.ntmps4
 go_wp2_with fail
 with_reducible refine cN.out.mono ?_
 rintro e w1 ⟨K0,rfl,hS0,YA,iE,abb⟩;have hJ0:=af (Oj hS0);have hB0:Hid (Oc K0.sp):=af (by rw[YA];exact Xt);have hT0:Hid (S9 K0.sp []):=af (by rw[YA];exact fun b hb=>by simp[ZV]at hb);generalize hp0:K0.p=p0;clear hS0 iE abb cN;go_wp2_with fail
 go_loopg[4,5] 40 (fun g s4 s5 wr=> ∃(k n:Nat) (K:aW) (L:List (ByteArray×ByteArray)),k<=n0/\k<=40/\g=40-k/\s5=.int .i64 k/\K.p=p0/\Aside ((n<=k/\L.length<=k)/\rV w wr n K L s4/\Oc K.sp/\S9 K.sp L))
 case atStart=>exact⟨0,0,K0,[],by omega,by omega,by omega,rfl,hp0,⟨by omega,by simp⟩,hJ0.out,hB0.out,hT0.out⟩
 case round=>
  obtain⟨k,n,K,L,hk0,agq,rfl,rfl,hp,hAs⟩:=hrel;obtain⟨⟨hnk,hLk⟩,hM,OI,J6⟩:=hAs;have dK:=hM.sk.own;clear hJ0 hB0 hT0;by_cases hlt:k<n0/\k<40
  ·obtain⟨k1,k3⟩:=hlt
   obtain⟨b1,o1,rfl,hts,hb1,hx⟩:=h0.out.at' dK k1;generalize hmk:ms k=m at*;obtain⟨mt,mx,mq,mr⟩:=m;simp only at hts hx;obtain⟨d0,d1,d2,d3⟩:=hx wr dK;have k3':(k:Int)<40:=by omega
   by_cases hbig:1500<mx.size
   ·have hbig':(1500:Int)<mx.size:=by omega
    replace hM:=af hM;replace OI:=af OI;replace J6:=af J6;replace dK:=af dK;clear hx;obtain⟨a4,c4,hs4⟩:=hM.out.la.sl;go_wp2_with fail
    go_roundg(40-(k+1))
    case measure=>omega
    case rel=>exact⟨k+1,n,K,L,by omega,by omega,by omega,by go_num,hp,⟨by omega,by omega⟩,hM.out,OI.out,J6.out⟩
   ·have hbig': ¬(1500:Int)<mx.size:=by omega
    have cT:=mG w wr n K k mt mx mq mr hM.sk hL.out hts (by omega) (by omega);have Zg:=Td hM.sk.inv (by omega) OI J6 (k:Int) mt mx;rw[hp]at cT;generalize aH K.sp k mt mx=V at cT Zg;obtain⟨⟨vc,vg,vn,va⟩,S2⟩:=V;unfold KW at cT;simp only at cT Zg;replace hM:=af hM;replace dK:=af dK;replace cT:=af cT;replace Zg:=af Zg;clear OI J6;go_wp2_with fail
    with_reducible refine cT.out.mono ?_
    rintro e w2 ⟨rfl,K2,hS2,hsp2,hp2,hO2,hf2⟩;have hM2:=hM.out.take hS2 hO2 hf2;obtain⟨a4,c4,rfl⟩:=hM2.la.sl;have dx:=af hM2.sk.own;replace hM2:=af hM2;replace hsp2:=af hsp2;replace hp2:=af hp2;clear cT hS2 hO2 hf2 hM d0 d1 d2 d3;by_cases Y6:vc=1
    case' pos=>
     subst Y6;have Aa:=Zg.out;rw[if_pos rfl]at Aa;replace Aa:=af Aa;clear Zg;have hA3:=af ((ai.refl [] w2).alloc (.cells #[.int .i64 1,.string vg,.string vn,.bool va] 31));have eO:=af (hM2.out.nil' hA3.out);have adS:=af (dx.out.trans hA3.out);obtain⟨d0,d1,d2,d3⟩:=hx _ adS.out.drew;have q0:(0:Int)<=k:=by omega
     have q1:(k:Int)<n0:=by omega
     generalize hW3:(w2.alloc (.cells #[.int .i64 1,.string vg,.string vn,.bool va] 31))=W3 at*;have sZ:=af (((ai.refl [] W3).alloc (.cells #[.string mt,.string mx] 43)).drew);have mR:=af ((aG.new (enc:=lU) (T:=43) W3 (mt,mx) 1).nil' ((ai.refl [] _).drew));have xX:=af (eO.out.nil' sZ.out);have hO4:=af xX.out.sk.own;have hl1:=af (show(L.length+[(mt,mx)].length)*32<=140737488355328 by simp only[List.length_singleton];omega);have hl2:=af (show L.length+[(mt,mx)].length<=maxLen by unfold maxLen;simp only[List.length_singleton];omega);have hLL:(L++[(mt,mx)]).length<=k+1:=by simp;omega
     replace hLL:=af hLL;simp only[lU]at mR;clear hx hLk eO adS hA3;subst hW3;go_wp2_with fail
     generalize(w2.alloc (.cells #[.int .i64 1,.string vg,.string vn,.bool va] 31))=W3 at*;go_region_law((go_loud(refine eX rfl (.tmp 43) (.tmp 55) (by rfl) vP hO4.out (by rfl) xX.out.la (by rfl) mR.out hl1.out hl2.out ?_);intro va7 w7 kI hqq hg2 iD;have U3:=af (xX.out.push kI hg2 iD);obtain⟨a7,c7,rfl⟩:=kI.sl;clear kI hqq hg2 iD))
     all_goals
      have hlx:L.length+1=(L++[(mt,mx)]).length:=by simp
      try rw[hlx]
      try rw[hlx]at U3
      clear hlx;generalize L++[(mt,mx)]=LL at*;replace hLL:=hLL.out;have UG:=af U3.out.sk.own;clear sZ xX mR hO4 hl1 hl2 d0 d1 d2 d3 hM2 dx q0 q1;go_wp2_with fail
    case' neg=>
     have Aa:=Zg.out;rw[if_neg Y6]at Aa;replace Aa:=af Aa;clear Zg;have hA3:=af ((ai.refl [] w2).alloc (.cells #[.int .i64 vc,.string vg,.string vn,.bool va] 31));have U3:=af (hM2.out.nil' hA3.out);have UG:=af (dx.out.trans hA3.out);have hLL:L.length<=k+1:=by omega
     clear hx;go_wp2_with fail
     generalize(w2.alloc (.cells #[.int .i64 vc,.string vg,.string vn,.bool va] 31))=w7 at*;clear hLk hM2 dx hA3;generalize L=LL at*;generalize a4=a7 at*;generalize c4=c7 at*
    all_goals
     have cB:=xg K2 w7 U3.out.sk.sk;rw[hp2.out,hsp2.out]at cB;with_reducible refine cB.mono ?_
     rintro e w8 ⟨vb,rfl,hSb,hOb⟩;obtain⟨ab,cb,rfl⟩:=hSb.sl;have hIv:=U3.out.sk.inv;rw[hsp2.out]at hIv;have hcnt:=JM hIv Aa.out.1;have hfw:=hIv.few;have Ze:Hid (∀q (h:q<(S2.bi.map iV).length),mH LL (S2.bi.map iV)[q].1=(S2.bi.map iV)[q].2):=af fun q h=>JN Aa.out.2 h
     have hlb:(S2.bi.map iV).length=S2.bi.length:=by simp
     generalize S2.bi.map iV=BL at*;have ahG:BL.length<=40:=by omega
     replace hlb:=af hlb;replace hfw:=af hfw;have hM9:=af (U3.out.nil' hOb);replace hSb:=af hSb;replace hOb:=af hOb;replace hcnt:=af hcnt;go_wp2_with fail
     have cV:=o5 K2 w8 hM9.out.sk.sk;rw[hp2.out,hsp2.out]at cV;with_reducible refine cV.mono ?_
     rintro e w9 ⟨vt,TV,rfl,j4,hsrt,mJ,hsh,aF⟩;obtain⟨av,cv,rfl⟩:=mJ.sl;have hTV:TV.length<=8:=by have h8:=hIv.n8;have h9:=j4.length_eq;simp only[List.length_map]at h9;omega
     obtain⟨hcA,hcL⟩:=Xu j4 hcnt.out (by have:=hfw.out;omega);have YC:uN TV TV.length=BL.length:=by have:=hlb.out;omega
     have Za:=af (hM9.out.nil' aF);have adU:=af (hSb.out.nil' aF);replace mJ:=af mJ;replace hsh:=af hsh;replace hcL:=af hcL;replace YC:=af YC;replace hIv:=af hIv;clear j4 hsrt aF hcnt hfw hlb hcA cB cV hIv U3 hM9 hSb hOb;go_wp2_with fail
     go_loopg[9,10] TV.length (fun g s9 s10 wr=> ∃j:Nat,j<=TV.length/\g=TV.length-j/\s10=.int .i64 j/\s9=.int .i64 (uN TV j:Nat)/\Aside (ai [] w9 wr))
     case atStart=>exact⟨0,by omega,by omega,rfl,by simp[uN],ai.refl _ _⟩
     case round=>
      obtain⟨j,hj,rfl,rfl,rfl,bI⟩:=hrel;by_cases hjl:j<TV.length
      ·obtain⟨gv,rfl,hcv⟩:=FW mJ.out hjl
       obtain⟨v2,v7⟩:=hcv wr bI;have hcs:=Oh hjl;have hc2:=hcL.out (j+1);have abg:=af (hsh.out _ (List.getElem_mem hjl));have hVm:=aah abg.out.sl;have hdl:=abg.out.dvs.1;generalize TV[j]=x at*;obtain⟨on,hon⟩: ∃b,x.s.online=b:=⟨_,rfl⟩;obtain⟨bs,hbs⟩: ∃b:Nat,uN TV j=b:=⟨_,rfl⟩;obtain⟨b2,hb2⟩: ∃b:Nat,bs+(if on=true then 1 else 0)=b:=⟨_,rfl⟩;have hsum:uN TV (j+1)=b2+xC x.s.dev x.s.dev.length:=by
        rw[hcs,hbs,<-hb2];unfold Od xC;rw[List.take_length,hon];omega
       have hle: ∀q,xC x.s.dev q<=xC x.s.dev x.s.dev.length:=fun q=>by
        unfold xC;rw[List.take_length];exact((List.take_sublist q x.s.dev).filter _).length_le
       have YD:b2+xC x.s.dev x.s.dev.length<=40:=by omega
       rw[hon]at v2;rw[hbs];replace bI:=af bI;replace hcs:=af hcs;replace hsum:=af hsum;replace hle:=af hle;replace hdl:=af hdl;replace hon:=af hon;replace hbs:=af hbs;cases on;all_goals
        have hb2':Hid ((b2:Int)=bs+0\/(b2:Int)=bs+1):=af (by simp at hb2;omega);have ajJ:=af hb2;simp only[if_true,if_false,Bool.false_eq_true]at hb2;clear hc2;go_wp2_with fail
        go_loopg[9,11] x.V.length (fun g s9 s11 wr2=> ∃q:Nat,q<=x.V.length/\g=x.V.length-q/\s11=.int .i64 q/\s9=.int .i64 ((b2+xC x.s.dev q:Nat):Int)/\Aside (ai [] w9 wr2))
        case atStart=>exact⟨0,by omega,by omega,rfl,by simp[xC,<-hb2],bI.out⟩
        case round=>
         obtain⟨q,hq,rfl,rfl,rfl,eU⟩:=hrel;obtain⟨v2,v7⟩:=hcv _ eU;by_cases hql:q<x.V.length
         ·obtain⟨gd,y,hva,hy,hdc⟩:=Og abg.out hql
          have hd1:=hdc _ eU;have hst:=Oi hy;have hle1:=hle.out (q+1);rw[hva]at v7;obtain⟨yo,hyo⟩: ∃b,y.on=b:=⟨_,rfl⟩;rw[hyo]at hd1 hst;replace eU:=af eU;replace hva:=af hva;clear hdc;cases yo;all_goals
           simp only[if_true,if_false,Bool.false_eq_true]at hst;generalize hcq:xC x.s.dev q=cq at*;generalize agz:xC x.s.dev (q+1)=cq1 at*;go_wp2_with fail
           go_roundg(x.V.length-(q+1))
           case measure=>omega
           case rel=>exact⟨q+1,by omega,rfl,by go_num,by rw[agz,hst];go_num,eU.out⟩
         ·have hqe:q=x.s.dev.length:=by have:=hdl.out;omega
          subst hqe;replace eU:=af eU;go_wp2_with fail
          go_roundg(TV.length-(j+1))
          case measure=>omega
          case rel=>exact⟨j+1,by omega,rfl,by go_num,by rw[hsum.out],eU.out⟩
      ·have Dv:j=TV.length:=by omega
       subst Dv;rw[YC.out];have hMB:=af (Za.out.nil' bI);generalize wr=wu at*;have agA:=af (adU.out.nil' bI);replace bI:=af bI;clear adU Za YC hcL hsh mJ;go_wp2_with fail
       go_loopg[12] BL.length (fun g s12 wr=> ∃q:Nat,q<=BL.length/\g=BL.length-q/\s12=.int .i64 q/\Aside (ai [] wu wr))
       case atStart=>exact⟨0,by omega,by omega,rfl,ai.refl _ _⟩
       case round=>
        obtain⟨q,hq,rfl,rfl,eU⟩:=hrel;by_cases hql:q<BL.length
        ·obtain⟨gb,rfl,hcb⟩:=qx agA.out hql
         have htx:=Ze.out q hql;generalize BL[q].1=y0 at*;generalize BL[q].2=y1 at*;replace eU:=af eU;replace htx:=af htx;go_wp2_with fail
         go_loopg[13,14] LL.length (fun g s13 OY wr3=> ∃r:Nat,r<=LL.length/\g=LL.length-r/\OY=.int .i64 r/\s13=.string (mH (LL.take r) y0)/\Aside (ai [] wu wr3))
         case atStart=>exact⟨0,by omega,by omega,rfl,rfl,eU.out⟩
         case round=>
          obtain⟨r,hr,rfl,rfl,rfl,gV⟩:=hrel;obtain⟨e0,e1⟩:=hcb _ gV;by_cases hrl:r<LL.length
          ·obtain⟨gl,rfl,hcl⟩:=qx hMB.out.la hrl
           obtain⟨f0,f1⟩:=hcl _ gV;have hst:=FX hrl y0;generalize LL[r].1=z0 at*;generalize LL[r].2=z1 at*;obtain⟨eb,heb⟩: ∃b,(z0.toList==y0.toList)=b:=⟨_,rfl⟩;rw[heb]at hst;have f1':=af (fun W (ho:ai [] wu W)=>(hcl W ho).2);replace gV:=af gV;clear hcl;cases eb
           ·rw[if_neg (by simp)]at hst
            replace hst:=af hst;go_wp2_with fail
            go_quiet(fail)
            go_wp2_with fail
            go_roundg(LL.length-(r+1))
            case measure=>omega
            case rel=>exact⟨r+1,by omega,rfl,by go_num,by rw[hst.out],gV.out.drewN _⟩
           ·rw[if_pos rfl]at hst
            replace hst:=af hst;have f1d:=f1'.out _ (gV.out.drewN 1);go_wp2_with fail
            go_quiet(fail)
            go_wp2_with fail
            go_roundg(LL.length-(r+1))
            case measure=>omega
            case rel=>exact⟨r+1,by omega,rfl,by go_num,by rw[hst.out],gV.out.drewN _⟩
          ·have hre:r=LL.length:=by omega
           subst hre;rw[List.take_length,htx.out];have hyy:(y1.toList==y1.toList)=true:=by simp
           replace gV:=af gV;go_wp2_with fail
           go_roundg(BL.length-(q+1))
           case measure=>omega
           case rel=>exact⟨q+1,by omega,rfl,by go_num,gV.out⟩
        ·have hMC:=af (hMB.out.nil' eU)
         replace eU:=af eU;go_wp2_with fail
         go_roundg(40-(k+1))
         case measure=>omega
         case rel=>exact⟨k+1,n+1,K2,LL,by omega,by omega,by omega,by go_num,hp2.out,⟨by omega,by omega⟩,hMC.out,by rw[hsp2.out];exact Aa.out.1,by rw[hsp2.out];exact Aa.out.2⟩
  ·have hex:(¬k<n0)\/(k<n0/\ ¬((k:Int)<40)):=by omega
   have cA:=af (hA.out wr dK);replace hM:=af hM;replace OI:=af OI;replace J6:=af J6;replace dK:=af dK;clear hlt;rcases hex with h2|⟨h2,h3⟩
   all_goals
    go_wp2_with(go_at_call 11;(with_reducible refine cA.out.mono ?_);rintro e w9 ⟨rfl,mU⟩;replace mU:=af mU)
    go_ret
    exact⟨rfl,(dK.out.trans mU.out).below (Nat.le_refl _) (by simp)⟩
end Go.Proofs.YtedcakchekaemaaGreatDoor
namespace Go.Proofs.YtedcakchekaemaaGreatDoor
open Go.RowKit
theorem Tf(a0:Option Addr)(n0 c0:Nat)(ms:Nat->xW)(w:World)(h0:Dc w a0 n0 ms)(_u:True)(hT:(∃kd:Kd,@mF kd w)/\pI w):
  Calls Tryz.prog 4 #[.slice a0 n0 c0] w fun e w'=>e=.returned (.bool true)/\Below w.heap.size w w':=by
 obtain⟨⟨kd,hL⟩,hT⟩:=hT;exact @Ol kd a0 n0 c0 ms w h0 hL (fun W ho=>Df W (hT.own ho))
end Go.Proofs.YtedcakchekaemaaGreatDoor
