/- Contracts of the program, part 3. -/
import Derived.Test.YtedcakchekaemaaGreatDoorMp01
import Derived.Test.YtedcakchekaemaaGreatDoorProg
import Derived.Stop.Asserts
import Derived.RowKitTokens
set_option maxRecDepth 100000
set_option maxHeartbeats 16000000
set_option linter.all false
namespace Go.Proofs.YtedcakchekaemaaGreatDoor
open Go.RowKit
section
variable {κ : Type} {enc : κ → Value}
theorem dI.size_eq{l:List (κ×Value)}{es:Array MapEntry}(hl:es.toList.map (fun e=>(e.key,e.val))=l.map (fun p=>(enc p.1,p.2))):es.size=l.length:=by
 have:=congrArg List.length hl;simpa using this
theorem dI.nodup{P:Program}{kt:TypeId}[BEq κ]{w:World}{m:Nat}{l:List (κ×Value)}(h:dI enc w m l)(_K:eH P kt enc):(l.map (·.1)).Nodup:=by
 obtain⟨es,clock,hb,hl,hst⟩:=h;have h1:=hst.2.2;have h2:es.toList.map (·.key)=l.map (fun p=>enc p.1):=by
  have:=congrArg (List.map Prod.fst) hl;simpa[List.map_map,Function.comp_def]using this
 rw[h2]at h1;have h3:(l.map (fun p=>enc p.1))=(l.map (·.1)).map enc:=by simp[List.map_map,Function.comp_def]
 rw[h3]at h1;exact(List.pairwise_map.1 h1).imp fun hne e=>hne (by rw[e])
variable {P : Program} {kt : TypeId}
theorem dI.clear{w:World}{m:Nat}{l:List (κ×Value)}(h:dI enc w m l){t e:TypeId}(ht:P.underlying t=some (.map kt e))(ty:TypeId):
  ∃w1,(Builtin.clear_ #[t] ty #[.map (some m)]).run P w=.ok (.tuple #[]) w1/\dI enc w1 m []/\ai [m] w w1/\w1.heap.size=w.heap.size:=by
 obtain⟨es,clock,hb,hl,hst⟩:=h;have hlt:=aj hb;refine⟨{w with heap:=w.heap.setIfInBounds m (.map #[] clock)},?_,⟨#[],clock,?_,rfl,MapKept.stamped_empty _⟩,(ai.refl _ _).setObj (by simp) _,by simp⟩
 ·simp[Builtin.clear_,run_underlying ht,MapKept.run_getObj_map hb,MapKept.run_setObj_map _ hb,Result.andThen]
 ·show(w.heap.setIfInBounds m _)[m]?=_
  simp[hlt]
def jw(enc:κ->Value)(w:World)(r m:Nat)(l rem:List (κ×Value)):Prop:=
 r≠m/\ ∃es clock since seen c0,w.heap[r]?=some (.mapIter (some m) since seen c0)/\w.heap[m]?=some (.map es clock)/\es.toList.map (fun e=>(e.key,e.val))=l.map (fun p=>(enc p.1,p.2))/\MapKept.Stamped es clock/\
  (∀x∈es.toList,x.born<since)/\since<=c0/\since<=clock/\(leftOf es seen).toList.map (fun e=>(e.key,e.val))=rem.map (fun p=>(enc p.1,p.2))
theorem jw.map{w:World}{r m:Nat}{l rem:List (κ×Value)}(h:jw enc w r m l rem):dI enc w m l:=by
 obtain⟨_,es,clock,since,seen,c0,hr,hm,hl,hst,_⟩:=h;exact⟨es,clock,hm,hl,hst⟩
theorem jw.own{S:List Nat}{w w':World}{r m:Nat}{l rem:List (κ×Value)}(h:jw enc w r m l rem)(ho:ai S w w')(hr:r∉S)(hm:m∉S):jw enc w' r m l rem:=by
 obtain⟨hne,es,clock,since,seen,c0,h1,h2,h3⟩:=h;exact⟨hne,es,clock,since,seen,c0,ho.heap h1 hr,ho.heap h2 hm,h3⟩
theorem dI.range{w:World}{m:Nat}{l:List (κ×Value)}(h:dI enc w m l){t e:TypeId}(ht:P.underlying t=some (.map kt e)):
  ∃w1,(Instr.range t (.map (some m))).run P w=.ok (.pointer (some ⟨w.heap.size,0,none⟩)) w1/\jw enc w1 w.heap.size m l l/\ai [] w w1/\w1.heap.size=w.heap.size+1:=by
 obtain⟨es,clock,hb,hl,hst⟩:=h;have hlt:=aj hb;refine⟨w.alloc (.mapIter (some m) clock #[] clock),?_,⟨by omega,es,clock,clock,#[],clock,heap_alloc_new _ _,?_,hl,hst,hst.1,Nat.le_refl _,Nat.le_refl _,?_⟩,(ai.refl _ _).alloc _,by simp⟩
 ·simp[Instr.range,run_underlying ht,MapKept.run_getObj_map hb,newObj,Sem.run,Result.andThen]
 ·rw[Below.heap_alloc _ _ _ hlt];exact hb
 ·have:leftOf es #[]=es:=by unfold leftOf;simp
  rw[this,hl]
theorem jw.next{w:World}{r m:Nat}{l rem:List (κ×Value)}(h:jw enc w r m l rem)(ty:TypeId):
  (rem=[]/\(Instr.next (.pointer (some ⟨r,0,none⟩)) false ty).run P w=.ok (.tuple #[.bool false]) w)\/
  ∃(r1 r2:List (κ×Value)) (p:κ×Value) (w1:World),rem=r1++p::r2/\(Instr.next (.pointer (some ⟨r,0,none⟩)) false ty).run P w=.ok (.tuple #[.bool true,enc p.1,p.2]) w1/\
   jw enc w1 r m l (r1++r2)/\ai [r] w w1/\w1.heap.size=w.heap.size/\(Instr.entry (.pointer (some ⟨r,0,none⟩))).run P w1=.ok (.tuple #[enc p.1,p.2]) w1:=by
 obtain⟨hne,es,clock,since,seen,c0,hr,hm,hl,hst,hold,hsc,hsk,hleft⟩:=h;rcases run_next_at (P:=P) w ty r m since c0 seen es clock hr hm hold hsc with⟨h0,hrun⟩|⟨e,he,w1,hw1,hrun⟩
 ·left
  refine⟨?_,hrun⟩;have:=congrArg List.length hleft;simp only[List.length_map,Array.length_toList,h0]at this;exact List.length_eq_zero_iff.1 this.symm
 ·right
  obtain⟨s1,s2,hs⟩:=List.append_of_mem he;rw[hs]at hleft;simp only[List.map_append,List.map_cons]at hleft;obtain⟨r1,OC,gX,h1,h2⟩:=List.map_eq_append_iff.1 hleft.symm;obtain⟨p,r2,h12,hp,h3⟩:=List.map_eq_cons_iff.1 h2;have hk:enc p.1=e.key:=(Prod.mk.inj hp).1;have hv:p.2=e.val:=(Prod.mk.inj hp).2;have hee:e∈es.toList:=by
   have:e∈leftOf es seen:=by simpa using he
   unfold leftOf at this;simp at this;simpa using this.1
  have hrl:r<w1.heap.size:=by rcases hw1 with rfl|rfl<;>exact aj hr
  have hm1:w1.heap[m]?=some (.map es clock):=by rcases hw1 with rfl|rfl<;>exact hm
  have aL:ai [r] w w1:=by rcases hw1 with rfl|rfl;exact ai.refl _ _;exact(ai.refl _ _).drew
  have hsz:w1.heap.size=w.heap.size:=by rcases hw1 with rfl|rfl<;>rfl
  have hr2:(ChangeMaps.setBlock w1 r (.mapIter (some m) since (seen.push e.born) clock)).heap[r]?=some (.mapIter (some m) since (seen.push e.born) clock):=by
   show(w1.heap.setIfInBounds r _)[r]?=_;simp[hrl]
  have hm2:(ChangeMaps.setBlock w1 r (.mapIter (some m) since (seen.push e.born) clock)).heap[m]?=some (.map es clock):=by
   show(w1.heap.setIfInBounds r _)[m]?=_;rw[Array.getElem?_setIfInBounds_ne hne];exact hm1
  refine⟨r1,r2,p,ChangeMaps.setBlock w1 r (.mapIter (some m) since (seen.push e.born) clock),by rw[gX,h12],by rw[hk,hv];exact hrun,?_,aL.trans ((ai.refl [r] w1).setObj (by simp) _),by simpa[ChangeMaps.setBlock]using hsz,?_⟩
  ·refine⟨hne,es,clock,since,seen.push e.born,clock,hr2,hm2,hl,hst,hold,hsk,hsk,?_⟩
   have hnb: ∀x∈s1++s2,x.born≠e.born:=by
    have hn:((leftOf es seen).toList.map (·.born)).Nodup:=by
     unfold leftOf;rw[Array.toList_filter];exact(List.Sublist.map _ List.filter_sublist).nodup hst.2.1
    rw[hs]at hn;simp only[List.map_append,List.map_cons]at hn;intro x hx heq;have hn2:=(List.perm_middle.nodup_iff).1 hn;rw[List.nodup_cons]at hn2;exact hn2.1 (by rw[<-heq,<-List.map_append];exact List.mem_map_of_mem hx)
   have hlf:(leftOf es (seen.push e.born)).toList=s1++s2:=by
    have h1:(leftOf es (seen.push e.born)).toList=(leftOf es seen).toList.filter (fun x=> !(x.born==e.born)):=by
     unfold leftOf;rw[Array.toList_filter,Array.toList_filter,List.filter_filter]
     congr 1;funext x
     rw[Bool.eq_iff_iff];simp[and_comm]
    rw[h1,hs,List.filter_append,List.filter_cons];have h2: ∀q:List MapEntry,(∀x∈q,x.born≠e.born)->q.filter (fun x=> !(x.born==e.born))=q:=fun q hq=>List.filter_eq_self.2 fun x hx=>by simpa using hq x hx
    rw[h2 s1 (fun x hx=>hnb x (List.mem_append_left _ hx)),h2 s2 (fun x hx=>hnb x (List.mem_append_right _ hx))];simp
   rw[hlf,List.map_append,List.map_append,h1,h3]
  ·rw[hk,hv]
   exact run_entry_at _ r m since seen es clock e hr2 hm2 hee hst.2.1
end
section
variable {P : Program} {kt : TypeId} {κ : Type} [BEq κ] [LawfulBEq κ] {enc : κ → Value}
def fU{α:Type}(l:List (κ×α))(k:κ):List (κ×α):=l.filter fun p=> !(p.1==k)
theorem ja{α:Type}(q:α->Bool): ∀(l:List α) (j:Nat),l.Pairwise (fun x y=> ¬(q x=true/\q y=true))->l.findIdx? q=some j->l.eraseIdx j=l.filter fun x=> !q x
 | [],j,_,h=>by simp at h
 |x::r,j,hp,h=>by
  obtain⟨h1,h2⟩:=List.pairwise_cons.1 hp;simp only[List.findIdx?_cons]at h;cases hx:q x with
  |true=>
   simp only[hx,if_true,Option.some.injEq]at h;subst h;have:r.filter (fun x=> !q x)=r:=List.filter_eq_self.2 fun y hy=>by
    have:=h1 y hy;simp only[hx,true_and]at this;simpa using this
   simp[hx,this]
  |false=>
   simp only[hx,Bool.false_eq_true,if_false]at h;obtain⟨i,hi,rfl⟩:=Option.map_eq_some_iff.1 h;simp[hx,ja q r i h2 hi]
theorem tJ{α:Type}{l:List (κ×α)}(h:(l.map (·.1)).Nodup)(k:κ):l.Pairwise (fun x y=> ¬((k==x.1)=true/\(k==y.1)=true)):=by
 rw[List.Nodup,List.pairwise_map]at h;exact h.imp fun hne ⟨h1,h2⟩=>hne ((LawfulBEq.eq_of_beq h1).symm.trans (LawfulBEq.eq_of_beq h2))
theorem dI.delete{w:World}{m:Nat}{l:List (κ×Value)}(h:dI enc w m l)(K:eH P kt enc){t e:TypeId}(ht:P.underlying t=some (.map kt e))(k:κ)(t2 ty:TypeId):
  ∃w1,(Builtin.delete_ #[t,t2] ty #[.map (some m),enc k]).run P w=.ok (.tuple #[]) w1/\dI enc w1 m (fU l k)/\ai [m] w w1/\w1.heap.size=w.heap.size:=by
 have hnd:=h.nodup K;obtain⟨es,clock,hb,hl,hst⟩:=h;have hlt:=aj hb;have hr:=iT (w:=w) K hl k;have hset: ∀o,({w with heap:=w.heap.setIfInBounds m o}:World).heap[m]?=some o:=fun o=>by
  show(w.heap.setIfInBounds m o)[m]?=_;simp[hlt]
 have hfl:fU l k=l.filter fun p=> !(k==p.1):=by
  unfold fU
  congr 1;funext p
  cases h1:(k==p.1)<;>cases h2:(p.1==k)<;>simp_all
 cases hj:l.findIdx? (fun p=>k==p.1)with
 |none=>
  rw[hj]at hr;refine⟨{w with heap:=w.heap.setIfInBounds m (.map es clock)},?_,⟨_,_,hset _,?_,hst⟩,(ai.refl _ _).setObj (by simp) _,by simp⟩
  ·simp[Builtin.delete_,run_underlying ht,MapKept.run_getObj_map hb,MapKept.run_setObj_map _ hb,K.check,hr,Result.andThen]
  ·have:l.filter (fun p=> !(k==p.1))=l:=List.filter_eq_self.2 fun p hp=>by simpa using List.findIdx?_eq_none_iff.1 hj p hp
   rw[hfl,this,hl]
 |some j=>
  obtain⟨hjl,hjk,_⟩:=List.findIdx?_eq_some_iff_getElem.1 hj;have hjp:l[j]?=some l[j]:=List.getElem?_eq_getElem hjl;have hlen:es.size=l.length:=by have:=congrArg List.length hl;simpa using this
  rw[hj]at hr;simp only[Option.bind_some,hjp,Option.map_some]at hr;refine⟨{w with heap:=w.heap.setIfInBounds m (.map (es.eraseIdxIfInBounds j) clock)},?_,⟨_,_,hset _,?_,MapKept.stamped_erase hst j⟩,(ai.refl _ _).setObj (by simp) _,by simp⟩
  ·simp[Builtin.delete_,run_underlying ht,MapKept.run_getObj_map hb,MapKept.run_setObj_map _ hb,K.check,hr,Result.andThen]
  ·rw[hfl,<-ja _ l j (tJ hnd k) hj]
   have:(es.eraseIdxIfInBounds j).toList=es.toList.eraseIdx j:=by
    unfold Array.eraseIdxIfInBounds;rw[dif_pos (by omega)];simp
   rw[this,ChangeMaps.map_eraseIdx,hl,<-ChangeMaps.map_eraseIdx]
theorem jw.delete{w:World}{r m:Nat}{l rem:List (κ×Value)}(h:jw enc w r m l rem)(K:eH P kt enc){t e:TypeId}(ht:P.underlying t=some (.map kt e))(k:κ)(t2 ty:TypeId)(hk: ∀p∈rem,p.1≠k):
  ∃w1,(Builtin.delete_ #[t,t2] ty #[.map (some m),enc k]).run P w=.ok (.tuple #[]) w1/\jw enc w1 r m (fU l k) rem/\ai [m] w w1/\w1.heap.size=w.heap.size:=by
 have hM:=h.map;have hnd:=hM.nodup K;obtain⟨hne,es,clock,since,seen,c0,hr,hb,hl,hst,hold,hsc,hsk,hleft⟩:=h;have hlt:=aj hb;have hrn:=iT (w:=w) K hl k;have hset: ∀o,({w with heap:=w.heap.setIfInBounds m o}:World).heap[m]?=some o:=fun o=>by
  show(w.heap.setIfInBounds m o)[m]?=_;simp[hlt]
 have Y3: ∀o,({w with heap:=w.heap.setIfInBounds m o}:World).heap[r]?=some (.mapIter (some m) since seen c0):=fun o=>by
  show(w.heap.setIfInBounds m o)[r]?=_;rw[Array.getElem?_setIfInBounds_ne (Ne.symm hne)];exact hr
 have hfl:fU l k=l.filter fun p=> !(k==p.1):=by
  unfold fU
  congr 1;funext p
  cases h1:(k==p.1)<;>cases h2:(p.1==k)<;>simp_all
 cases hj:l.findIdx? (fun p=>k==p.1)with
 |none=>
  rw[hj]at hrn;refine⟨{w with heap:=w.heap.setIfInBounds m (.map es clock)},?_,⟨hne,es,clock,since,seen,c0,Y3 _,hset _,?_,hst,hold,hsc,hsk,hleft⟩,(ai.refl _ _).setObj (by simp) _,by simp⟩
  ·simp[Builtin.delete_,run_underlying ht,MapKept.run_getObj_map hb,MapKept.run_setObj_map _ hb,K.check,hrn,Result.andThen]
  ·have:l.filter (fun p=> !(k==p.1))=l:=List.filter_eq_self.2 fun p hp=>by simpa using List.findIdx?_eq_none_iff.1 hj p hp
   rw[hfl,this,hl]
 |some j=>
  obtain⟨hjl,hjk,_⟩:=List.findIdx?_eq_some_iff_getElem.1 hj;have hjp:l[j]?=some l[j]:=List.getElem?_eq_getElem hjl;have hlen:es.size=l.length:=by have:=congrArg List.length hl;simpa using this
  have hjs:j<es.size:=by omega
  rw[hj]at hrn;simp only[Option.bind_some,hjp,Option.map_some]at hrn;have hel:(es.eraseIdxIfInBounds j).toList=es.toList.eraseIdx j:=by
   unfold Array.eraseIdxIfInBounds;rw[dif_pos (by omega)];simp
  refine⟨{w with heap:=w.heap.setIfInBounds m (.map (es.eraseIdxIfInBounds j) clock)},?_,⟨hne,_,clock,since,seen,c0,Y3 _,hset _,?_,MapKept.stamped_erase hst j,?_,hsc,hsk,?_⟩,(ai.refl _ _).setObj (by simp) _,by simp⟩
  ·simp[Builtin.delete_,run_underlying ht,MapKept.run_getObj_map hb,MapKept.run_setObj_map _ hb,K.check,hrn,Result.andThen]
  ·rw[hfl,<-ja _ l j (tJ hnd k) hj,hel,ChangeMaps.map_eraseIdx,hl,<-ChangeMaps.map_eraseIdx]
  ·intro x hx
   rw[hel]at hx;exact hold x (List.mem_of_mem_eraseIdx hx)
  ·rw[<-hleft]
   have hkey:es[j].key=enc k:=by
    have:=congrArg (fun q=>q[j]?) hl;simp only[List.getElem?_map,hjp,Option.map_some,Array.getElem?_toList,Array.getElem?_eq_getElem hjs,Option.some.injEq,Prod.mk.injEq]at this;rw[this.1,LawfulBEq.eq_of_beq hjk]
   have hnot:(!seen.contains es[j].born)=false:=by
    cases hc:(!seen.contains es[j].born)
    ·rfl
    ·exfalso
     have hmem:es[j]∈(leftOf es seen).toList:=by
      unfold leftOf;simp only[Array.toList_filter,List.mem_filter];exact⟨by simp,hc⟩
     have:=List.mem_map_of_mem (f:=fun e:MapEntry=>(e.key,e.val)) hmem;rw[hleft]at this;obtain⟨p,hp,he⟩:=List.mem_map.1 this;exact hk p hp (K.inj _ _ ((Prod.mk.inj he).1.trans hkey))
   have:(leftOf (es.eraseIdxIfInBounds j) seen).toList=(leftOf es seen).toList:=by
    unfold leftOf;rw[Array.toList_filter,Array.toList_filter,hel];have hsplit:es.toList=es.toList.take j++es[j]::es.toList.drop (j+1):=by
     rw[<-List.take_append_drop j es.toList]
     congr 1
     ·simp
     ·rw[List.take_append_drop,List.drop_eq_getElem_cons (by simpa using hjs)]
      simp
    rw[List.eraseIdx_eq_take_drop_succ]
    conv=>rhs;rw[hsplit]
    rw[List.filter_append,List.filter_append,List.filter_cons,hnot];simp
   rw[this]
end
section
variable {P : Program} {kt : TypeId} {κ α : Type} {ek : κ → Value} {ev : α → Value}
def Dt(ev:α->Value)(l:List (κ×α)):List (κ×Value):=l.map fun p=>(p.1,ev p.2)
theorem GV(l:List (κ×α)):(Dt ev l).length=l.length:=by simp[Dt]
theorem PN(l:List (κ×α)):(Dt ev l).map (·.1)=l.map (·.1):=by simp[Dt,List.map_map,Function.comp_def]
theorem DX[BEq κ](l:List (κ×α))(k:κ):aQ (Dt ev l) k=(aQ l k).map ev:=by
 unfold aQ Dt;rw[List.find?_map,Option.map_map,Option.map_map];rfl
theorem PO[BEq κ](l:List (κ×α))(k:κ)(v:α):bX (Dt ev l) k (ev v)=Dt ev (bX l k v):=by
 induction l with
 |nil=>rfl
 |cons p r ih=>
  simp only[Dt,List.map_cons,bX]at ih⊢;cases h:(p.1==k)
  ·simp only[Bool.false_eq_true,if_false,List.map_cons];rw[ih]
  ·simp
theorem DY[BEq κ](l:List (κ×α))(k:κ):fU (Dt ev l) k=Dt ev (fU l k):=by
 unfold fU Dt;rw[List.filter_map];rfl
theorem dW[BEq κ][LawfulBEq κ](l:List (κ×α))(k:κ):aQ l k=none↔ ∀p∈l,p.1≠k:=by
 unfold aQ;rw[Option.map_eq_none_iff,List.find?_eq_none];simp
theorem Ca[BEq κ][LawfulBEq κ](l:List (κ×α))(hn:(l.map (·.1)).Nodup){p:κ×α}(hp:p∈l):aQ l p.1=some p.2:=by
 induction l with
 |nil=>simp at hp
 |cons q r ih=>
  simp only[List.map_cons,List.nodup_cons]at hn;rcases List.mem_cons.1 hp with rfl|h
  ·simp[aQ]
  ·have hne:q.1≠p.1:=fun e=>hn.1 (by rw[e];exact List.mem_map_of_mem h)
   have:=ih hn.2 h;unfold aQ at this⊢;rw[List.find?_cons_of_neg (by simpa using hne)];exact this
theorem DZ[BEq κ][LawfulBEq κ]{l:List (κ×α)}{k:κ}{v:α}(h:aQ l k=some v):(k,v)∈l:=by
 unfold aQ at h;obtain⟨p,hp,rfl⟩:=Option.map_eq_some_iff.1 h;have h1:=List.find?_some hp;have h2:=List.mem_of_find?_eq_some hp;have:p.1=k:=by simpa using h1
 subst this;exact h2
theorem sG[BEq κ][LawfulBEq κ]{l l':List (κ×α)}(hp:l.Perm l')(hn:(l.map (·.1)).Nodup)(k:κ):aQ l k=aQ l' k:=by
 have hn':(l'.map (·.1)).Nodup:=(hp.map _).nodup_iff.1 hn;cases h:aQ l k with
 |some v=>exact(Ca l' hn' (p:=(k,v)) (hp.mem_iff.1 (DZ h))).symm
 |none=>
  symm;rw[dW]at h⊢;exact fun p hp'=>h p (hp.mem_iff.2 hp')
theorem D5[BEq κ][LawfulBEq κ]{l:List (κ×α)}{k:κ}(h:aQ l k=none)(v:α):bX l k v=l++[(k,v)]:=by
 refine wC v ?_;rw[List.findIdx?_eq_none_iff];intro p hp;have:=(dW l k).1 h p hp;simpa using fun e=>this e.symm
theorem AR[BEq κ][LawfulBEq κ]{l:List (κ×α)}(hn:(l.map (·.1)).Nodup)(k:κ)(v:α):(bX l k v).Perm ((k,v)::fU l k):=by
 induction l with
 |nil=>simp[bX,fU]
 |cons p r ih=>
  simp only[List.map_cons,List.nodup_cons]at hn;unfold fU at ih⊢;by_cases h:p.1=k
  ·subst h
   have:r.filter (fun q=> !(q.1==p.1))=r:=List.filter_eq_self.2 fun q hq=>by
    have:q.1≠p.1:=fun e=>hn.1 (by rw[<-e];exact List.mem_map_of_mem hq)
    simpa using this
   simp[bX,this]
  ·have h1:(p.1==k)=false:=by simpa using h
   simp only[bX,h1,Bool.false_eq_true,if_false,List.filter_cons,Bool.not_false,if_true];exact((ih hn.2).cons p).trans (List.Perm.swap _ _ _)
def dR(ek:κ->Value)(ev:α->Value)(w:World)(m:Nat)(l:List (κ×α)):Prop:= ∃l',l'.Perm l/\dI ek w m (Dt ev l')
theorem dR.perm{w:World}{m:Nat}{l l2:List (κ×α)}(h:dR ek ev w m l)(hp:l.Perm l2):dR ek ev w m l2:=let⟨l',h1,h2⟩:=h;⟨l',h1.trans hp,h2⟩
theorem dR.own{S:List Nat}{w w':World}{m:Nat}{l:List (κ×α)}(h:dR ek ev w m l)(ho:ai S w w')(hn:m∉S):dR ek ev w' m l:=let⟨l',h1,h2⟩:=h;⟨l',h1,h2.own ho hn⟩
theorem dR.of_heap{w w':World}{m:Nat}{l:List (κ×α)}(h:dR ek ev w m l)(he:w'.heap[m]?=w.heap[m]?):dR ek ev w' m l:=let⟨l',h1,h2⟩:=h;⟨l',h1,h2.of_heap he⟩
theorem dR.lt{w:World}{m:Nat}{l:List (κ×α)}(h:dR ek ev w m l):m<w.heap.size:=let⟨_,_,h2⟩:=h;h2.lt
theorem dR.made(w:World):dR ek ev (w.alloc (.map #[] 0)) w.heap.size ([]:List (κ×α)):=⟨[],List.Perm.refl _,dI.made w⟩
theorem dR.nodup[BEq κ]{w:World}{m:Nat}{l:List (κ×α)}(h:dR ek ev w m l)(K:eH P kt ek):(l.map (·.1)).Nodup:=by
 obtain⟨l',h1,h2⟩:=h;have:=h2.nodup K;rw[PN]at this;exact(h1.map _).nodup_iff.1 this
theorem dR.len_run{w:World}{m:Nat}{l:List (κ×α)}(h:dR ek ev w m l){e t:TypeId}(ht:P.underlying t=some (.map kt e))(ty:TypeId):
  (Builtin.len_ #[t] ty #[.map (some m)]).run P w=.ok (.int .i64 l.length) w:=by
 obtain⟨l',h1,h2⟩:=h;have:=h2.len_run (P:=P) ht ty;rw[GV,h1.length_eq]at this;exact this
theorem dR.lookup_yes[BEq κ][LawfulBEq κ]{w:World}{m:Nat}{l:List (κ×α)}(h:dR ek ev w m l)(K:eH P kt ek){t e:TypeId}(ht:P.underlying t=some (.map kt e))(k:κ){v:α}
  (hg:aQ l k=some v)(c:Bool):(Instr.lookup t (.map (some m)) (ek k) c).run P w=.ok (if c then .tuple #[ev v,.bool true]else ev v) w:=by
 have hn:=h.nodup K;obtain⟨l',h1,h2⟩:=h;exact h2.lookup_yes K ht k (by rw[DX,sG h1 ((h1.map _).nodup_iff.2 hn),hg];rfl) c
theorem dR.lookup_no[BEq κ][LawfulBEq κ]{w:World}{m:Nat}{l:List (κ×α)}(h:dR ek ev w m l)(K:eH P kt ek){t e:TypeId}(ht:P.underlying t=some (.map kt e))(k:κ){z:Value}
  (hz:(zeroValue e).run P w=.ok z w)(hg:aQ l k=none)(c:Bool):(Instr.lookup t (.map (some m)) (ek k) c).run P w=.ok (if c then .tuple #[z,.bool false]else z) w:=by
 have hn:=h.nodup K;obtain⟨l',h1,h2⟩:=h;exact h2.lookup_no K ht k hz (by rw[DX,sG h1 ((h1.map _).nodup_iff.2 hn),hg];rfl) c
theorem dR.update[BEq κ][LawfulBEq κ]{w:World}{m:Nat}{l:List (κ×α)}(h:dR ek ev w m l)(K:eH P kt ek){t e:TypeId}(ht:P.underlying t=some (.map kt e))(k:κ)(v:α):
  ∃w1,(Instr.mapUpdate t (.map (some m)) (ek k) (ev v)).run P w=.ok () w1/\dR ek ev w1 m (bX l k v)/\ai [m] w w1/\w1.heap.size=w.heap.size:=by
 have hn:=h.nodup K;obtain⟨l',h1,h2⟩:=h;have hn':=(h1.map _).nodup_iff.2 hn;obtain⟨w1,r1,r2,r3⟩:=h2.update K ht k (ev v);rw[PO]at r2;exact⟨w1,r1,⟨_,(AR hn' k v).trans ((List.Perm.cons _ (h1.filter _)).trans (AR hn k v).symm),r2⟩,r3⟩
theorem dR.delete[BEq κ][LawfulBEq κ]{w:World}{m:Nat}{l:List (κ×α)}(h:dR ek ev w m l)(K:eH P kt ek){t e:TypeId}(ht:P.underlying t=some (.map kt e))(k:κ)(t2 ty:TypeId):
  ∃w1,(Builtin.delete_ #[t,t2] ty #[.map (some m),ek k]).run P w=.ok (.tuple #[]) w1/\dR ek ev w1 m (fU l k)/\ai [m] w w1/\w1.heap.size=w.heap.size:=by
 obtain⟨l',h1,h2⟩:=h;obtain⟨w1,r1,r2,r3⟩:=h2.delete K ht k t2 ty;rw[DY]at r2;exact⟨w1,r1,⟨_,h1.filter _,r2⟩,r3⟩
theorem dR.clear{w:World}{m:Nat}{l:List (κ×α)}(h:dR ek ev w m l){t e:TypeId}(ht:P.underlying t=some (.map kt e))(ty:TypeId):
  ∃w1,(Builtin.clear_ #[t] ty #[.map (some m)]).run P w=.ok (.tuple #[]) w1/\dR ek ev w1 m ([]:List (κ×α))/\ai [m] w w1/\w1.heap.size=w.heap.size:=by
 obtain⟨l',h1,h2⟩:=h;obtain⟨w1,r1,r2,r3⟩:=h2.clear (P:=P) ht ty;exact⟨w1,r1,⟨[],List.Perm.refl _,r2⟩,r3⟩
def iq(ek:κ->Value)(ev:α->Value)(w:World)(r m:Nat)(l rem:List (κ×α)):Prop:= ∃l',l'.Perm l/\jw ek w r m (Dt ev l') (Dt ev rem)
theorem iq.map{w:World}{r m:Nat}{l rem:List (κ×α)}(h:iq ek ev w r m l rem):dR ek ev w m l:=let⟨l',h1,h2⟩:=h;⟨l',h1,h2.map⟩
theorem iq.own{S:List Nat}{w w':World}{r m:Nat}{l rem:List (κ×α)}(h:iq ek ev w r m l rem)(ho:ai S w w')(hr:r∉S)(hm:m∉S):iq ek ev w' r m l rem:=
 let⟨l',h1,h2⟩:=h;⟨l',h1,h2.own ho hr hm⟩
theorem iq.lt{w:World}{r m:Nat}{l rem:List (κ×α)}(h:iq ek ev w r m l rem):r<w.heap.size:=by
 obtain⟨l',h1,hne,es,clock,since,seen,c0,hr,_⟩:=h;exact aj hr
theorem dR.range{w:World}{m:Nat}{l:List (κ×α)}(h:dR ek ev w m l){t e:TypeId}(ht:P.underlying t=some (.map kt e)):
  ∃w1 rem,(Instr.range t (.map (some m))).run P w=.ok (.pointer (some ⟨w.heap.size,0,none⟩)) w1/\iq ek ev w1 w.heap.size m l rem/\rem.Perm l/\ai [] w w1/\w1.heap.size=w.heap.size+1:=by
 obtain⟨l',h1,h2⟩:=h;obtain⟨w1,r1,r2,r3⟩:=h2.range (P:=P) ht;exact⟨w1,l',r1,⟨l',h1,r2⟩,h1,r3⟩
theorem iq.next{w:World}{r m:Nat}{l rem:List (κ×α)}(h:iq ek ev w r m l rem)(P:Program):
  (rem=[]/\ ∀ty,(Instr.next (.pointer (some ⟨r,0,none⟩)) false ty).run P w=.ok (.tuple #[.bool false]) w)\/
  ∃(r1 r2:List (κ×α)) (k:κ) (v:α) (w1:World),rem=r1++(k,v)::r2/\(∀ty,(Instr.next (.pointer (some ⟨r,0,none⟩)) false ty).run P w=.ok (.tuple #[.bool true,ek k,ev v]) w1)/\
   iq ek ev w1 r m l (r1++r2)/\ai [r] w w1/\w1.heap.size=w.heap.size/\(Instr.entry (.pointer (some ⟨r,0,none⟩))).run P w1=.ok (.tuple #[ek k,ev v]) w1:=by
 obtain⟨l',h1,h2⟩:=h;rcases h2.next (P:=P) 0 with⟨h3,h4⟩|⟨r1,r2,p,w1,h3,h4,h5,h6,h7,h8⟩
 ·left
  exact⟨by simpa[Dt]using h3,fun ty=>h4⟩
 ·right
  obtain⟨s1,s2,hs,hs1,hs2⟩:=List.map_eq_append_iff.1 h3;obtain⟨q,s3,hs3,hq,hs4⟩:=List.map_eq_cons_iff.1 hs2;obtain⟨k,v⟩:=q;have hk:k=p.1:=(Prod.mk.inj hq).1;have hv:ev v=p.2:=(Prod.mk.inj hq).2;refine⟨s1,s3,k,v,w1,by rw[hs,hs3],fun ty=>by rw[hk,hv];exact h4,⟨l',h1,?_⟩,h6,h7,by rw[hk,hv];exact h8⟩;have:Dt ev (s1++s3)=r1++r2:=by unfold Dt;rw[List.map_append,hs1,hs4]
  rw[this];exact h5
theorem iq.delete[BEq κ][LawfulBEq κ]{w:World}{r m:Nat}{l rem:List (κ×α)}(h:iq ek ev w r m l rem)(K:eH P kt ek){t e:TypeId}(ht:P.underlying t=some (.map kt e))(k:κ)(t2:TypeId)(hk: ∀p∈rem,p.1≠k):
  ∃w1,(∀ty,(Builtin.delete_ #[t,t2] ty #[.map (some m),ek k]).run P w=.ok (.tuple #[]) w1)/\iq ek ev w1 r m (fU l k) rem/\ai [m] w w1/\w1.heap.size=w.heap.size:=by
 obtain⟨l',h1,h2⟩:=h;obtain⟨w1,r1,r2,r3⟩:=h2.delete K ht k t2 0 (fun p hp=>by
  obtain⟨q,hq,rfl⟩:=List.mem_map.1 hp;exact hk q hq)
 rw[DY]at r2;exact⟨w1,fun ty=>r1,⟨_,h1.filter _,r2⟩,r3⟩
end
end Go.Proofs.YtedcakchekaemaaGreatDoor
namespace Go.Proofs.YtedcakchekaemaaGreatDoor
open Go.RowKit Go.Extern.Stop Go.Stop Go.Extern
theorem Zt(t:Value)(w:World):
  Calls Tryz.prog 325 #[.nilIface,t] w fun e w'=>e=.returned (.bool false)/\w'=w:=by
 go_enter Tryz.func325,Tryz.ntmps325
 go_wp2
 go_ret
 exact⟨rfl,rfl⟩
theorem As.valueOf27(t:Addr)(w:World):(ReflectliteValue.unpack (.iface 447 (.pointer (some t)))).run Tryz.prog w
 =.ok (.agg #[.pointer (some ⟨6,447,none⟩),.pointer (some ⟨w.heap.size,0,none⟩),.int .u64 150]) (w.alloc (.cells #[.pointer (some t)] 447)):=by kernel_rfl
theorem As.type27(a:Addr)(w:World):(ReflectliteValue.methodAny (ReflectliteValue.valueError "reflectlite.Value.Type" 0) (fun t _ _ _=>ReflectliteType.toType t) #[.agg #[.pointer (some ⟨6,447,none⟩),.pointer (some a),.int .u64 150]]).run Tryz.prog w
 =.ok (.iface 484 (.agg #[.pointer (some ⟨6,447,none⟩)])) w:=by kernel_rfl
theorem As.methodKind(h:Value)(w:World):(Go.method 677 484 (.agg #[h]) "Kind").run Tryz.prog w=.ok (364,h) w:=by kernel_rfl
theorem As.kind27(w:World):((ReflectliteType.abiMethod fun t=>Functor.map (fun a:Nat=>Value.int IntKind.u8 (a:Int)) (Rtype.kind t)) #[.pointer (some ⟨6,447,none⟩)]).run Tryz.prog w=.ok (.int .u8 22) w:=by kernel_rfl
theorem As.kind25(w:World):((ReflectliteType.abiMethod fun t=>Functor.map (fun a:Nat=>Value.int IntKind.u8 (a:Int)) (Rtype.kind t)) #[.pointer (some ⟨6,445,none⟩)]).run Tryz.prog w=.ok (.int .u8 22) w:=by kernel_rfl
theorem rlm(z:Sem Value)(f:TypeId->Addr->Nat->Nat->Sem Value)(v:Value):
 ReflectliteValue.method z f #[v]=(do match<-ReflectliteValue.parts v with|none=>z|some (t,a,fl)=>f t a fl (fl%32)):=rfl
theorem As.parts27(a:Addr)(w:World):(ReflectliteValue.parts (.agg #[.pointer (some ⟨6,447,none⟩),.pointer (some a),.int .u64 150])).run Tryz.prog w=.ok (some (447,a,150)) w:=by kernel_rfl
theorem As.isNil27(a p:Addr)(W:World)(ha:W.cell? a=some (.pointer (some p))):
  (ReflectliteValue.method (ReflectliteValue.valueError "reflectlite.Value.IsNil" 0) ReflectliteValue.isNil #[.agg #[.pointer (some ⟨6,447,none⟩),.pointer (some a),.int .u64 150]]).run Tryz.prog W=.ok (.bool false) W:=by
 rw[rlm];simp only[Sem.run_bind,As.parts27,Result.andThen];simp[ReflectliteValue.isNil,loadVar,isAgg,underlying,Tryz.underlying447,ha,Result.andThen]
theorem As.methodElem(h:Value)(w:World):(Go.method 677 484 (.agg #[h]) "Elem").run Tryz.prog w=.ok (431,.agg #[h]) w:=by kernel_rfl
theorem As.methodImplements(h:Value)(w:World):(Go.method 677 484 (.agg #[h]) "Implements").run Tryz.prog w=.ok (432,.agg #[h]) w:=by kernel_rfl
theorem As.methodAssignableTo(h:Value)(w:World):(Go.method 677 484 (.agg #[h]) "AssignableTo").run Tryz.prog w=.ok (429,.agg #[h]) w:=by kernel_rfl
theorem As.elem27(w:World):(ReflectliteType.method ReflectliteType.elem #[.agg #[.pointer (some ⟨6,447,none⟩)]]).run Tryz.prog w=.ok (.iface 484 (.agg #[.pointer (some ⟨6,445,none⟩)])) w:=by kernel_rfl
theorem As.implements25(w:World):(ReflectliteType.relation "Implements" ReflectliteType.implements_ #[.agg #[.pointer (some ⟨6,445,none⟩)],.iface 484 (.agg #[.pointer (some ⟨6,331,none⟩)])]).run Tryz.prog w=.ok (.bool true) w:=by kernel_rfl
theorem As.typeOf25(v:Value)(w:World):(ReflectliteType.typeOf #[.iface 445 v]).run Tryz.prog w=.ok (.iface 484 (.agg #[.pointer (some ⟨6,445,none⟩)])) w:=by kernel_rfl
theorem As.assignable25(w:World):(ReflectliteType.relation "AssignableTo" ReflectliteType.assignableTo #[.agg #[.pointer (some ⟨6,445,none⟩)],.iface 484 (.agg #[.pointer (some ⟨6,445,none⟩)])]).run Tryz.prog w=.ok (.bool true) w:=by kernel_rfl
theorem As.valueOf25(e:Addr)(w:World):(ReflectliteValue.unpack (.iface 445 (.pointer (some e)))).run Tryz.prog w
 =.ok (.agg #[.pointer (some ⟨6,445,none⟩),.pointer (some ⟨w.heap.size,0,none⟩),.int .u64 150]) (w.alloc (.cells #[.pointer (some e)] 445)):=by kernel_rfl
theorem As.elemOf27(w:World):(Rtype.elem? 447).run Tryz.prog w=.ok (some 445) w:=by kernel_rfl
theorem As.mk25(p:Addr)(w:World):(ReflectliteValue.mk 445 p ReflectliteValue.flagAddr).run Tryz.prog w=.ok (.agg #[.pointer (some ⟨6,445,none⟩),.pointer (some p),.int .u64 406]) w:=by kernel_rfl
theorem As.elemV27(a p:Addr)(W:World)(ha:W.cell? a=some (.pointer (some p))):
  (ReflectliteValue.method (ReflectliteValue.valueError "reflectlite.Value.Elem" 0) ReflectliteValue.elem #[.agg #[.pointer (some ⟨6,447,none⟩),.pointer (some a),.int .u64 150]]).run Tryz.prog W
   =.ok (.agg #[.pointer (some ⟨6,445,none⟩),.pointer (some p),.int .u64 406]) W:=by
 rw[rlm];simp only[Sem.run_bind,As.parts27,Result.andThen];simp[ReflectliteValue.elem,loadVar,isAgg,underlying,Tryz.underlying447,ha,Result.andThen,As.elemOf27,As.mk25]
theorem rls(v x:Value):ReflectliteValue.set #[v,x]=(do
 let(some (dst,a,fl),some (src,b,_)):=(<-ReflectliteValue.parts v,<-ReflectliteValue.parts x)
  |unsupported (.noEntry "extern/(internal/reflectlite.Value).Set.zeroValue")
 if fl/ReflectliteValue.flagAddr%2==0 then unsupported (.noEntry "extern/(internal/reflectlite.Value).Set.unaddressable")
 let val <-loadVar src b
 if<-Rtype.directlyAssignable dst src then storeVar dst a val
 else if<-Rtype.implements dst src then
  if(<-Rtype.kind src)==20 then
   match val with
   | .nilIface=>unsupported (.noEntry "extern/reflectlite: a nil value of one interface type handed on as a value of another")
   |_=>storeVar dst a val
  else storeVar dst a (.iface src val)
 else panicString ("reflectlite.Set: value of type " ++(<-Rtype.spelt src)++ " is not assignable to type " ++(<-Rtype.spelt dst))
 pure (.tuple #[])):=rfl
theorem As.parts25a(a:Addr)(w:World):(ReflectliteValue.parts (.agg #[.pointer (some ⟨6,445,none⟩),.pointer (some a),.int .u64 406])).run Tryz.prog w=.ok (some (445,a,406)) w:=by kernel_rfl
theorem As.parts25(a:Addr)(w:World):(ReflectliteValue.parts (.agg #[.pointer (some ⟨6,445,none⟩),.pointer (some a),.int .u64 150])).run Tryz.prog w=.ok (some (445,a,150)) w:=by kernel_rfl
theorem As.direct25(w:World):(Rtype.directlyAssignable 445 445).run Tryz.prog w=.ok true w:=by kernel_rfl
theorem As.set25(ta b e:Addr)(old:Value)(W:World)(hb:W.cell? b=some (.pointer (some e)))(ht:W.cell? ta=some old)(hf:W.frozen? ta=false):
  (ReflectliteValue.set #[.agg #[.pointer (some ⟨6,445,none⟩),.pointer (some ta),.int .u64 406],.agg #[.pointer (some ⟨6,445,none⟩),.pointer (some b),.int .u64 150]]).run Tryz.prog W
   =.ok (.tuple #[]) (W.setCell ta (.pointer (some e))):=by
 rw[rls];simp only[Sem.run_bind,As.parts25a,As.parts25,Result.andThen];simp[ReflectliteValue.flagAddr,loadVar,isAgg,underlying,Tryz.underlying445,hb,Result.andThen,As.direct25,storeVar,Value.cells,storeCells,Addr.add];rw[run_store Tryz.prog W ta _ _ (by rfl)];simp[ht,hf]
theorem Zu(e t:Addr)(old:Value)(w:World)(hg:w.cell? ⟨4,0,none⟩=some (.iface 484 (.agg #[.pointer (some ⟨6,331,none⟩)])))(ht0:w.cell? t=some old)(hf0:w.frozen? t=false):
  Calls Tryz.prog 325 #[.iface 445 (.pointer (some e)),.iface 447 (.pointer (some t))] w fun ev w'=>ev=.returned (.bool true)/\w'=((((w.alloc (.cells #[.pointer (some t)] 447)).alloc (.cells #[.pointer (some ⟨6,447,none⟩),.pointer (some ⟨w.heap.size,0,none⟩),.int .u64 150] 469)).alloc (.cells #[.pointer (some ⟨6,447,none⟩),.pointer (some ⟨w.heap.size,0,none⟩),.int .u64 150] 469)).alloc (.cells #[.pointer (some e)] 445)).setCell t (.pointer (some e)):=by
 have h6:= @run_callFunc_extern Tryz.prog 337 _ (fun args=>ReflectliteValue.unpack (args.getD 0 (.tuple #[]))) Tryz.func337 (by kernel_rfl) (by kernel_rfl) (by kernel_rfl) (by kernel_rfl);have h7:= @run_callFunc_extern Tryz.prog 338 _ (ReflectliteValue.methodAny (ReflectliteValue.valueError "reflectlite.Value.Type" 0) (fun t _ _ _=>ReflectliteType.toType t)) Tryz.func338 (by kernel_rfl) (by kernel_rfl) (by kernel_rfl) (by kernel_rfl);have h8:= @run_callFunc_extern Tryz.prog 339 _ (ReflectliteValue.method (ReflectliteValue.valueError "reflectlite.Value.IsNil" 0) ReflectliteValue.isNil) Tryz.func339 (by kernel_rfl) (by kernel_rfl) (by kernel_rfl) (by kernel_rfl);have h27:= @run_callFunc_extern Tryz.prog 364 _ (ReflectliteType.abiMethod fun t=>do pure (.int .u8 (<-Rtype.kind t))) Tryz.func364 (by kernel_rfl) (by kernel_rfl) (by kernel_rfl) (by kernel_rfl);have h37:= @run_callFunc_extern Tryz.prog 431 _ (ReflectliteType.method ReflectliteType.elem) Tryz.func431 (by kernel_rfl) (by kernel_rfl) (by kernel_rfl) (by kernel_rfl);have OD:= @run_callFunc_extern Tryz.prog 432 _ (ReflectliteType.relation "Implements" ReflectliteType.implements_) Tryz.func432 (by kernel_rfl) (by kernel_rfl) (by kernel_rfl) (by kernel_rfl);have h10:= @run_callFunc_extern Tryz.prog 346 _ ReflectliteType.typeOf Tryz.func346 (by kernel_rfl) (by kernel_rfl) (by kernel_rfl) (by kernel_rfl);have h35:= @run_callFunc_extern Tryz.prog 429 _ (ReflectliteType.relation "AssignableTo" ReflectliteType.assignableTo) Tryz.func429 (by kernel_rfl) (by kernel_rfl) (by kernel_rfl) (by kernel_rfl);have h11:= @run_callFunc_extern Tryz.prog 347 _ (ReflectliteValue.method (ReflectliteValue.valueError "reflectlite.Value.Elem" 0) ReflectliteValue.elem) Tryz.func347 (by kernel_rfl) (by kernel_rfl) (by kernel_rfl) (by kernel_rfl);have h12:= @run_callFunc_extern Tryz.prog 348 _ ReflectliteValue.set Tryz.func348 (by kernel_rfl) (by kernel_rfl) (by kernel_rfl) (by kernel_rfl);have tO:=As.typeOf25;have mA:=As.methodAssignableTo;have a25:=As.assignable25;have v25:=As.valueOf25;have f6:=As.valueOf27;have f7:=As.type27;have mK:=As.methodKind;have mE:=As.methodElem;have mI:=As.methodImplements;have k27:=As.kind27;have k25:=As.kind25;have e27:=As.elem27;have i25:=As.implements25;have n8:=As.isNil27 ⟨w.heap.size,0,none⟩ t ((w.alloc (.cells #[.pointer (some t)] 447)).alloc (.cells #[.pointer (some ⟨6,447,none⟩),.pointer (some ⟨w.heap.size,0,none⟩),.int .u64 150] 469)) (by simp);have hlt:4<w.heap.size:=World.block_lt_of_cell? w _ hg;have hg2:((w.alloc (.cells #[.pointer (some t)] 447)).alloc (.cells #[.pointer (some ⟨6,447,none⟩),.pointer (some ⟨w.heap.size,0,none⟩),.int .u64 150] 469)).cell? ⟨4,0,none⟩=some (.iface 484 (.agg #[.pointer (some ⟨6,331,none⟩)])):=by
  rw[World.cell?_alloc_lt _ _ ⟨4,0,none⟩ (by simp;omega),World.cell?_alloc_lt _ _ ⟨4,0,none⟩ hlt];exact hg
 have htl:t.block<w.heap.size:=by
  rcases Nat.lt_or_ge t.block w.heap.size with h|h
  ·exact h
  ·simp[World.cell?,Array.getElem?_eq_none h]at ht0
 have el:=As.elemV27 ⟨w.heap.size,0,none⟩ t (((w.alloc (.cells #[.pointer (some t)] 447)).alloc (.cells #[.pointer (some ⟨6,447,none⟩),.pointer (some ⟨w.heap.size,0,none⟩),.int .u64 150] 469)).alloc (.cells #[.pointer (some ⟨6,447,none⟩),.pointer (some ⟨w.heap.size,0,none⟩),.int .u64 150] 469)) (by rw[World.cell?_alloc_lt _ _ ⟨w.heap.size,0,none⟩ (by simp;omega)];simp);have st:=As.set25 t ⟨w.heap.size+1+1+1,0,none⟩ e old ((((w.alloc (.cells #[.pointer (some t)] 447)).alloc (.cells #[.pointer (some ⟨6,447,none⟩),.pointer (some ⟨w.heap.size,0,none⟩),.int .u64 150] 469)).alloc (.cells #[.pointer (some ⟨6,447,none⟩),.pointer (some ⟨w.heap.size,0,none⟩),.int .u64 150] 469)).alloc (.cells #[.pointer (some e)] 445))
  (by rw[World.cell?_alloc_at _ _ _ _ (by simp)];rfl)
  (by rw[World.cell?_alloc_lt _ _ t (by simp;omega),World.cell?_alloc_lt _ _ t (by simp;omega),World.cell?_alloc_lt _ _ t (by simp;omega),World.cell?_alloc_lt _ _ t htl];exact ht0)
  (by rw[World.frozen?_alloc_old _ _ t (by simp;omega),World.frozen?_alloc_old _ _ t (by simp;omega),World.frozen?_alloc_old _ _ t (by simp;omega),World.frozen?_alloc_old _ _ t (Nat.ne_of_lt htl)];exact hf0)
 go_enter Tryz.func325,Tryz.ntmps325
 go_wp2
 refine wp_loop_rounds 1 ?_;rw[rounds_succ];go_wp2
 go_ret
 exact⟨rfl,rfl⟩
end Go.Proofs.YtedcakchekaemaaGreatDoor
