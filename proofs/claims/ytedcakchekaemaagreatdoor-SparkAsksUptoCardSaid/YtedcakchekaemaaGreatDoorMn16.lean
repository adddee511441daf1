import Derived.Test.YtedcakchekaemaaGreatDoorMn01
import Derived.Sort.Walk0
set_option maxRecDepth 100000
set_option maxHeartbeats 16000000
set_option linter.all false
namespace Go.Proofs.YtedcakchekaemaaGreatDoor
open Go.RowKit Go.Sort
def aP(x y:ByteArray):Bool:=Op.bytesLess x.toList y.toList
def lq(x y:ByteArray):Int:=if aP x y then -1 else if x.toList==y.toList then 0 else 1
theorem ku(x y:ByteArray):aP x y=true↔x.toList<y.toList:=by
 unfold aP;rw[bytesLess_eq];simp
theorem fH{x y:ByteArray}(h:x.toList=y.toList):x=y:=by
 have:(x==y)=true:=by rw[beq_toListBytes];simpa using h
 simpa using this
theorem gM(x:ByteArray):aP x x=false:=by
 cases h:aP x x
 ·rfl
 ·exact absurd ((ku x x).1 h) (List.lt_irrefl _)
theorem jH{x y z:ByteArray}(h:aP x y=true)(k:aP y z=true):aP x z=true:=
 (ku x z).2 (List.lt_trans ((ku x y).1 h) ((ku y z).1 k))
theorem BS{x y:ByteArray}(h:aP x y=true):aP y x=false:=by
 cases k:aP y x
 ·rfl
 ·have:=jH h k
  rw[gM]at this;cases this
theorem lG{x y:ByteArray}(h:aP x y=false)(k:aP y x=false):x=y:=by
 refine fH (List.le_antisymm (List.not_lt.1 fun hc=>?_) (List.not_lt.1 fun hc=>?_))
 ·rw[(ku y x).2 hc]at k;cases k
 ·rw[(ku x y).2 hc]at h;cases h
theorem Ng{x y:ByteArray}(h:aP y x=false)(hne:x≠y):aP x y=true:=by
 cases k:aP x y
 ·exact absurd (lG k h) hne
 ·rfl
def dh{α:Type}(key:α->ByteArray)(l:List α):Prop:=l.Pairwise fun x y=>aP (key x) (key y)=true
end Go.Proofs.YtedcakchekaemaaGreatDoor
namespace Go.Proofs.YtedcakchekaemaaGreatDoor
open Go.RowKit
section
variable {α : Type} {key : α → ByteArray}
def bV(key:α->ByteArray)(r:List α)(n:ByteArray):Nat:=(r.takeWhile fun p=>aP (key p) n).length
def iM(key:α->ByteArray)(r:List α)(n:ByteArray):Bool:=match r[bV key r n]? with|some p=>(key p).toList==n.toList|none=>false
def O6(key:α->ByteArray)(r:List α)(x:α):List α:=r.take (bV key r (key x))++[x]++r.drop (bV key r (key x))
theorem Be(r:List α)(n:ByteArray):bV key r n<=r.length:=(List.takeWhile_prefix _).length_le
theorem Si{r:List α}{n:ByteArray}{k:Nat}(h:k<bV key r n): ∃p,r[k]?=some p/\aP (key p) n=true:=by
 have hk:k<(r.takeWhile fun p=>aP (key p) n).length:=h;refine⟨(r.takeWhile fun p=>aP (key p) n)[k],?_,List.all_eq_true.1 (List.all_takeWhile (p:=fun p=>aP (key p) n) (l:=r)) _ (List.getElem_mem hk)⟩;obtain⟨s,hs⟩:=List.takeWhile_prefix (p:=fun p=>aP (key p) n) (l:=r);have e:((r.takeWhile fun p=>aP (key p) n)++s)[k]?=some (r.takeWhile fun p=>aP (key p) n)[k]:=by
  rw[List.getElem?_append_left hk];exact List.getElem?_eq_getElem hk
 rwa[hs]at e
theorem Bf{r:List α}{n:ByteArray}{p:α}(h:r[bV key r n]?=some p):aP (key p) n=false:=by
 unfold bV at h;induction r with
 |nil=>simp at h
 |cons q r ih=>
  cases hq:aP (key q) n
  ·simp[hq]at h
   rw[<-h];exact hq
  ·simp[hq]at h
   exact ih h
theorem xM(r:List α)(n:ByteArray):r.take (bV key r n)=r.takeWhile (fun p=>aP (key p) n)/\r.drop (bV key r n)=r.dropWhile (fun p=>aP (key p) n):=by
 have h:=List.takeWhile_append_dropWhile (p:=fun p:α=>aP (key p) n) (l:=r);have h1:=List.take_left (l₁:=r.takeWhile fun p=>aP (key p) n) (l₂:=r.dropWhile fun p=>aP (key p) n);have h2:=List.drop_left (l₁:=r.takeWhile fun p=>aP (key p) n) (l₂:=r.dropWhile fun p=>aP (key p) n);rw[h]at h1 h2;exact⟨h1,h2⟩
theorem U4{r:List α}(h:dh key r):(r.map key).Nodup:=by
 unfold dh at h;rw[List.nodup_iff_pairwise_ne,List.pairwise_map];refine h.imp fun {a b} hab e=>?_
 rw[e,gM]at hab;cases hab
theorem xO{r:List α}(hr:dh key r){n:ByteArray}{p:α}(hp:p∈r)(hn:key p=n):r[bV key r n]?=some p:=by
 have h:=List.takeWhile_append_dropWhile (p:=fun p:α=>aP (key p) n) (l:=r);have hd:=(xM (key:=key) r n).2;have hpd:p∈r.dropWhile (fun p=>aP (key p) n):=by
  rw[<-h]at hp;rcases List.mem_append.1 hp with h1|h1
  ·have:=List.all_eq_true.1 (List.all_takeWhile (p:=fun p:α=>aP (key p) n) (l:=r)) p h1
   rw[hn,gM]at this;cases this
  ·exact h1
 cases hq:r.dropWhile (fun p=>aP (key p) n)with
 |nil=>rw[hq]at hpd;cases hpd
 |cons q s=>
  have hqk:r[bV key r n]?=some q:=by
   have:(r.drop (bV key r n))[0]?=some q:=by rw[hd,hq];rfl
   simpa using this
  rw[hqk];rw[hq]at hpd;rcases List.mem_cons.1 hpd with rfl|h2
  ·rfl
  ·exfalso
   have hns:=Bf hqk;have hr2:(r.dropWhile (fun p=>aP (key p) n)).Pairwise (fun x y=>aP (key x) (key y)=true):=hr.sublist (List.dropWhile_sublist _);rw[hq,List.pairwise_cons]at hr2;have:=hr2.1 p h2;rw[hn,hns]at this;cases this
theorem nK{r:List α}{n:ByteArray}(h:iM key r n=true): ∃p,r[bV key r n]?=some p/\key p=n:=by
 unfold iM at h;cases hp:r[bV key r n]? with
 |none=>rw[hp]at h;cases h
 |some p=>rw[hp]at h;exact⟨p,rfl,fH (by simpa using h)⟩
theorem KP{r:List α}(hr:dh key r){n:ByteArray}(h:iM key r n=false): ∀p∈r,key p≠n:=by
 intro p hp e;unfold iM at h;rw[xO hr hp e]at h;simp[e]at h
theorem aau{r:List α}(hr:dh key r){n:ByteArray}{p:α}(hp:p∈r)(hn:key p=n):iM key r n=true:=by
 unfold iM;rw[xO hr hp hn];simp[hn]
theorem aav{r:List α}{n:ByteArray}(h: ∀p∈r,key p≠n):iM key r n=false:=by
 cases hh:iM key r n
 ·rfl
 ·obtain⟨p,hp,he⟩:=nK hh
  exact absurd he (h p (List.mem_of_getElem? hp))
theorem KQ(r:List α)(x:α):(O6 key r x).Perm (x::r):=by
 unfold O6
 conv=>rhs;rw[<-List.take_append_drop (bV key r (key x)) r]
 rw[List.append_assoc];exact List.perm_middle
theorem Yy(r:List α)(x:α):(O6 key r x).length=r.length+1:=by simpa using(KQ (key:=key) r x).length_eq
theorem Gj{r:List α}(hr:dh key r){x:α}(hn: ∀p∈r,key p≠key x):dh key (O6 key r x):=by
 obtain⟨e1,e2⟩:=xM (key:=key) r (key x);unfold dh at hr⊢;unfold O6;rw[e1,e2];have h:=List.takeWhile_append_dropWhile (p:=fun p:α=>aP (key p) (key x)) (l:=r);have hr2:=hr;rw[<-h,List.pairwise_append]at hr2;obtain⟨a1,a2,a3⟩:=hr2;have hlt: ∀y∈r.takeWhile (fun p=>aP (key p) (key x)),aP (key y) (key x)=true:=fun y hy=>List.all_eq_true.1 (List.all_takeWhile (p:=fun p:α=>aP (key p) (key x)) (l:=r)) y hy
 have hgt: ∀y∈r.dropWhile (fun p=>aP (key p) (key x)),aP (key x) (key y)=true:=by
  intro y hy;cases hq:r.dropWhile (fun p=>aP (key p) (key x))with
  |nil=>rw[hq]at hy;cases hy
  |cons q s=>
   have hqk:r[bV key r (key x)]?=some q:=by
    have:(r.drop (bV key r (key x)))[0]?=some q:=by rw[e2,hq];rfl
    simpa using this
   have hqr:q∈r:=List.mem_of_getElem? hqk;have hnq:aP (key x) (key q)=true:=Ng (Bf hqk) (Ne.symm (hn q hqr));rw[hq]at hy a2;rw[List.pairwise_cons]at a2;rcases List.mem_cons.1 hy with rfl|h2
   ·exact hnq
   ·exact jH hnq (a2.1 y h2)
 rw[List.pairwise_append,List.pairwise_append];refine⟨⟨a1,List.pairwise_singleton _ _,?_⟩,a2,?_⟩
 ·intro y hy z hz
  simp at hz;subst hz;exact hlt y hy
 ·intro y hy z hz
  rcases List.mem_append.1 hy with h1|h1
  ·exact a3 y h1 z hz
  ·simp at h1
   subst h1;exact hgt z hz
theorem sD: ∀(l:List α) (i:Nat) (h:i<l.length),(l[i]::l.eraseIdx i).Perm l
 | [],i,h=>absurd h (Nat.not_lt_zero i)
 |x::r,0,_=>List.Perm.refl _
 |x::r,i+1,h=>by
  simp only[List.getElem_cons_succ,List.eraseIdx_cons_succ];exact(List.Perm.swap x _ _).trans (List.Perm.cons x (sD r i (by simpa using h)))
theorem Yz{l:List α}{i:Nat}(h:i<l.length)(x:α):(l.set i x).Perm (x::l.eraseIdx i):=by
 have h2:i<(l.set i x).length:=by simpa using h
 have:=(sD _ i h2).symm;simpa[List.eraseIdx_set_eq]using this
theorem uW{r:List α}(hr:dh key r){k:Nat}{p x:α}(hk:r[k]?=some p)(hx:key x=key p):dh key (r.set k x):=by
 have hkl:=(List.getElem?_eq_some_iff.1 hk).1;have ek:=(List.getElem?_eq_some_iff.1 hk).2;have hm:(r.set k x).map key=r.map key:=by
  rw[List.map_set];have:(r.map key)[k]'(by simpa using hkl)=key x:=by simp[ek,hx]
  rw[<-this,List.set_getElem_self]
 unfold dh at hr⊢;have h2:(r.map key).Pairwise (fun x y=>aP x y=true):=List.pairwise_map.2 hr;rw[<-hm]at h2;exact List.pairwise_map.1 h2
theorem U5{r:List α}(hr:dh key r)(k:Nat):dh key (r.eraseIdx k):=hr.sublist (List.eraseIdx_sublist ..)
end
end Go.Proofs.YtedcakchekaemaaGreatDoor
