/- Contracts of the program, part 1. -/
import Derived.Lib.Hide
import Derived.WalkSpells
import Derived.WalkLawsBesides
set_option maxRecDepth 100000
set_option maxHeartbeats 16000000
set_option linter.all false
namespace Go.Proofs.YtedcakchekaemaaGreatDoor
theorem af{p:Prop}(h:p):Go.RowKit.Hid p:=h
end Go.Proofs.YtedcakchekaemaaGreatDoor
namespace Go.Proofs.YtedcakchekaemaaGreatDoor
open Go.RowKit
structure ai (S:List Nat) (w w':World):Prop where
 os:w'.os=w.os
 tape:w'.tape=w.tape
 output:w'.output=w.output
 size:w.heap.size<=w'.heap.size
 block: ∀k,k<w.heap.size->k∉S->w'.heap[k]?=w.heap[k]?
theorem ai.refl(S:List Nat)(w:World):ai S w w:=⟨rfl,rfl,rfl,Nat.le_refl _,fun _ _ _=>rfl⟩
theorem ai.trans'{S S':List Nat}{a b c:World}(h:ai S a b)(k:ai S' b c)(hs: ∀x∈S',x∈S\/a.heap.size<=x):ai S a c:=
 ⟨k.os.trans h.os,k.tape.trans h.tape,k.output.trans h.output,Nat.le_trans h.size k.size,fun i hi hn=>
  (k.block i (Nat.lt_of_lt_of_le hi h.size) (fun hx=>by rcases hs i hx with h1|h1;exact hn h1;omega)).trans (h.block i hi hn)⟩
theorem ai.trans{S:List Nat}{a b c:World}(h:ai S a b)(k:ai S b c):ai S a c:=h.trans' k (fun _ hx=>.inl hx)
theorem ai.weaken{S S':List Nat}{a b:World}(h:ai S' a b)(hs: ∀x∈S',x∈S\/a.heap.size<=x):ai S a b:=
 (ai.refl S a).trans' h hs
theorem ai.mono{S S':List Nat}{a b:World}(h:ai S' a b)(hs: ∀x∈S',x∈S):ai S a b:=h.weaken (fun x hx=>.inl (hs x hx))
theorem ai.nil{S:List Nat}{a b:World}(h:ai [] a b):ai S a b:=h.mono (by simp)
theorem ai.drew{S:List Nat}{a b:World}(h:ai S a b):ai S a b.drew:=⟨h.os,h.tape,h.output,h.size,h.block⟩
theorem ai.drewN{S:List Nat}{a b:World}(h:ai S a b)(n:Nat):ai S a (b.drewN n):=⟨h.os,h.tape,h.output,h.size,h.block⟩
theorem ai.alloc{S:List Nat}{a b:World}(h:ai S a b)(o:Obj):ai S a (b.alloc o):=
 ⟨h.os,h.tape,h.output,by have:=h.size;simp;omega,fun k hk hn=>by rw[Below.heap_alloc _ _ _ (Nat.lt_of_lt_of_le hk h.size)];exact h.block k hk hn⟩
theorem ai.setCell{S:List Nat}{a b:World}(h:ai S a b){p:Addr}(hp:p.block∈S\/a.heap.size<=p.block)(u:Value):ai S a (b.setCell p u):=
 ⟨h.os,h.tape,h.output,by have:=h.size;simp;omega,fun k hk hn=>by
  rw[Below.heap_setCell _ _ _ _ (by rintro rfl;rcases hp with h1|h1;exact hn h1;omega)];exact h.block k hk hn⟩
theorem ai.setObj{S:List Nat}{a b:World}(h:ai S a b){r:Nat}(hp:r∈S\/a.heap.size<=r)(o:Obj):ai S a {b with heap:=b.heap.setIfInBounds r o}:=
 ⟨h.os,h.tape,h.output,by have:=h.size;simp;omega,fun k hk hn=>by
  show(b.heap.setIfInBounds r o)[k]?=_;rw[Array.getElem?_setIfInBounds_ne (by rintro rfl;rcases hp with h1|h1;exact hn h1;omega)];exact h.block k hk hn⟩
theorem ai.below{S:List Nat}{a b:World}(h:ai S a b){B:Nat}(hB:B<=a.heap.size)(hs: ∀x∈S,B<=x):Below B a b:=
 ⟨h.os,h.tape,h.output,h.size,fun k hk=>h.block k (Nat.lt_of_lt_of_le hk hB) (fun hx=>by have:=hs k hx;omega)⟩
theorem ai.of_below{B:Nat}{a b:World}(h:Below B a b)(hB:a.heap.size<=B):ai [] a b:=
 ⟨h.os,h.tape,h.output,h.size,fun k hk _=>h.block k (Nat.lt_of_lt_of_le hk hB)⟩
theorem ai.cell{S:List Nat}{w w':World}(h:ai S w w'){p:Addr}(hp:p.block<w.heap.size)(hn:p.block∉S):w'.cell? p=w.cell? p:=
 World.cell?_of_block (w:=w) (h.block p.block hp hn)
theorem aj{w:World}{b:Nat}{o:Obj}(h:w.heap[b]?=some o):b<w.heap.size:=(Array.getElem?_eq_some_iff.1 h).1
theorem ai.heap{S:List Nat}{w w':World}(h:ai S w w'){b:Nat}{o:Obj}(hb:w.heap[b]?=some o)(hn:b∉S):w'.heap[b]?=some o:=
 (h.block b (aj hb) hn).trans hb
theorem AJ(a b:ByteArray):(a==b)=(a.data==b.data):=rfl
instance:LawfulBEq ByteArray where
 eq_of_beq {a b} h:=by
  rw[AJ]at h;cases a;cases b;simpa using h
 rfl {a}:=by rw[AJ];simp
section
variable {κ : Type} [BEq κ] {enc : κ → Value}
theorem yG{d:TypeDesc}(hs: ∀a b,Instr.sameNow d (enc a) (enc b)=some (a==b))(k:κ):
  ∀(es:List MapEntry) (l:List (κ×Value)) (i:Nat),es.map (fun e=>(e.key,e.val))=l.map (fun p=>(enc p.1,p.2))->
   Instr.findNow d (enc k) es i=some ((l.findIdx? (fun p=>k==p.1)).bind fun j=>(l[j]?).map fun p=>(i+j,p.2))
 | [],l,i,h=>by
   cases l with
   |nil=>simp[Instr.findNow]
   |cons p r=>simp at h
 |e::es,l,i,h=>by
  cases l with
  |nil=>simp at h
  |cons p r=>
   simp only[List.map_cons,List.cons.injEq,Prod.mk.injEq]at h;obtain⟨⟨h1,h2⟩,h3⟩:=h;simp only[Instr.findNow,h1,hs];cases hkp:(k==p.1)
   ·rw[yG hs k es r (i+1) h3]
    simp only[List.findIdx?_cons,hkp,Option.some.injEq];cases hf:r.findIdx? (fun p=>k==p.1)with
    |none=>simp
    |some j=>simp[Nat.add_assoc,Nat.add_comm 1 j]
   ·simp[List.findIdx?_cons,hkp,h2]
theorem uW{P:Program}{kt:TypeId}{d:TypeDesc}(hd:P.underlying kt=some d)(hs: ∀a b,Instr.sameNow d (enc a) (enc b)=some (a==b))(w:World)(k:κ)(l:List (κ×Value))(es:List MapEntry)
  (h:es.map (fun e=>(e.key,e.val))=l.map (fun p=>(enc p.1,p.2))):(Instr.findKey kt (enc k) es).run P w=.ok ((l.findIdx? (fun p=>k==p.1)).bind fun j=>(l[j]?).map fun p=>(j,p.2)) w:=by
 have:=yG hs k es l 0 h;simp only[Nat.zero_add]at this;exact MapKept.run_findKey hd this
end
structure eH (P:Program) (kt:TypeId) {κ:Type} [BEq κ] (enc:κ->Value):Prop where
 find: ∀(w:World) (k:κ) (l:List (κ×Value)) (es:List MapEntry),es.map (fun e=>(e.key,e.val))=l.map (fun p=>(enc p.1,p.2))->
  (Instr.findKey kt (enc k) es).run P w=.ok ((l.findIdx? (fun p=>k==p.1)).bind fun j=>(l[j]?).map fun p=>(j,p.2)) w
 check: ∀(w:World) (em:Bool) (a:κ),(Instr.checkKey em 10000 kt (enc a)).run P w=.ok () w
 inj: ∀a b,enc a=enc b->a=b
 stays: ∀(w:World) (a:κ),(Instr.keyThatStays (enc a) (enc a)).run P w=.ok (enc a) w
theorem mY{P:Program}{kt:TypeId}(h:P.underlying kt=some .string):eH P kt Value.string where
 find:=uW h fun a b=>rfl
 check w em a:=MapKept.run_checkKey h (k:=.string a) (by simp[MapKept.IsKey]) em 9999
 inj a b h:=by cases h;rfl
 stays w a:=MapKept.run_keyThatStays (d:=.string) (by simp[MapKept.IsKey])
theorem Pp{P:Program}{kt:TypeId}{k:IntKind}(h:P.underlying kt=some (.int k)):eH P kt (Value.int k) where
 find:=uW h fun a b=>by simp[Instr.sameNow]
 check w em a:=MapKept.run_checkKey h (k:=.int k a) (by simp[MapKept.IsKey]) em 9999
 inj a b h:=by cases h;rfl
 stays w a:=MapKept.run_keyThatStays (d:=.int k) (by simp[MapKept.IsKey])
section
variable {κ : Type} {enc : κ → Value}
def dI(enc:κ->Value)(w:World)(m:Nat)(l:List (κ×Value)):Prop:=
 ∃es clock,w.heap[m]?=some (.map es clock)/\es.toList.map (fun e=>(e.key,e.val))=l.map (fun p=>(enc p.1,p.2))/\MapKept.Stamped es clock
theorem dI.len{w:World}{m:Nat}{l:List (κ×Value)}(h:dI enc w m l): ∃es clock,w.heap[m]?=some (.map es clock)/\es.size=l.length:=by
 obtain⟨es,clock,hb,hl,_⟩:=h;exact⟨es,clock,hb,by have:=congrArg List.length hl;simpa using this⟩
theorem dI.len_run{P:Program}{kt e t:TypeId}{w:World}{m:Nat}{l:List (κ×Value)}(h:dI enc w m l)(ht:P.underlying t=some (.map kt e))(ty:TypeId):
  (Builtin.len_ #[t] ty #[.map (some m)]).run P w=.ok (.int .i64 l.length) w:=by
 obtain⟨es,clock,hb,hl⟩:=h.len;simp[Builtin.len_,run_underlying ht,MapKept.run_getObj_map hb,goInt,Result.andThen,hl]
theorem dI.made(w:World):dI enc (w.alloc (.map #[] 0)) w.heap.size []:=⟨#[],0,heap_alloc_new w _,rfl,MapKept.stamped_empty 0⟩
theorem dI.lt{w:World}{m:Nat}{l:List (κ×Value)}(h:dI enc w m l):m<w.heap.size:=by
 obtain⟨es,clock,hb,hl⟩:=h;exact aj hb
theorem dI.own{S:List Nat}{w w':World}{m:Nat}{l:List (κ×Value)}(h:dI enc w m l)(ho:ai S w w')(hn:m∉S):dI enc w' m l:=by
 obtain⟨es,clock,hb,hl⟩:=h;exact⟨es,clock,ho.heap hb hn,hl⟩
theorem dI.of_heap{w w':World}{m:Nat}{l:List (κ×Value)}(h:dI enc w m l)(he:w'.heap[m]?=w.heap[m]?):dI enc w' m l:=by
 obtain⟨es,clock,hb,hl⟩:=h;exact⟨es,clock,he.trans hb,hl⟩
end
section
variable {κ : Type} [BEq κ] {enc : κ → Value}
variable {P : Program} {kt : TypeId}
theorem iT(K:eH P kt enc){w:World}{l:List (κ×Value)}{es:Array MapEntry}
  (h:es.toList.map (fun e=>(e.key,e.val))=l.map (fun p=>(enc p.1,p.2)))(k:κ):
  (Instr.findKey kt (enc k) es.toList).run P w=.ok ((l.findIdx? (fun p=>k==p.1)).bind fun j=>(l[j]?).map fun p=>(j,p.2)) w:=by
 exact K.find w k l es.toList h
end
section
variable {P : Program} {kt : TypeId} {κ : Type} [BEq κ] [LawfulBEq κ] {enc : κ → Value}
def aQ{α:Type}(l:List (κ×α))(k:κ):Option α:=(l.find? (fun p=>p.1==k)).map (·.2)
def bX{α:Type}:List (κ×α)->κ->α->List (κ×α)
 | [],k,v=>[(k,v)]
 |p::r,k,v=>if p.1==k then(k,v)::r else p::bX r k v
theorem kg{α:Type}(l:List (κ×α))(k:κ):aQ l k=(l.findIdx? (fun p=>k==p.1)).bind fun j=>(l[j]?).map (·.2):=by
 induction l with
 |nil=>rfl
 |cons p r ih=>
  unfold aQ at ih⊢;simp only[List.find?_cons,List.findIdx?_cons];by_cases h:p.1=k
  ·subst h;simp
  ·have h1:(p.1==k)=false:=by simpa using h
   have h2:(k==p.1)=false:=by simpa using fun e=>h e.symm
   simp only[h1,h2,ih];cases hf:r.findIdx? (fun p=>k==p.1)with
   |none=>simp
   |some j=>simp
theorem dI.lookup_yes{w:World}{m:Nat}{l:List (κ×Value)}(h:dI enc w m l)(K:eH P kt enc){t e:TypeId}(ht:P.underlying t=some (.map kt e))(k:κ){v:Value}
  (hg:aQ l k=some v)(c:Bool):(Instr.lookup t (.map (some m)) (enc k) c).run P w=.ok (if c then .tuple #[v,.bool true]else v) w:=by
 obtain⟨es,clock,hb,hl,_⟩:=h;rw[kg]at hg;obtain⟨j,hj,hg⟩:=Option.bind_eq_some_iff.1 hg;obtain⟨p,hp,rfl⟩:=Option.map_eq_some_iff.1 hg;have hr:=iT (w:=w) K hl k;rw[hj]at hr;simp only[Option.bind_some,hp,Option.map_some]at hr;simp[Instr.lookup,run_underlying ht,MapKept.run_getObj_map hb,K.check,hr,Result.andThen]
theorem dI.lookup_no{w:World}{m:Nat}{l:List (κ×Value)}(h:dI enc w m l)(K:eH P kt enc){t e:TypeId}(ht:P.underlying t=some (.map kt e))(k:κ){z:Value}
  (hz:(zeroValue e).run P w=.ok z w)(hg:aQ l k=none)(c:Bool):(Instr.lookup t (.map (some m)) (enc k) c).run P w=.ok (if c then .tuple #[z,.bool false]else z) w:=by
 obtain⟨es,clock,hb,hl,_⟩:=h;rw[kg]at hg;have hr:=iT (w:=w) K hl k;have hn:(l.findIdx? (fun p=>k==p.1)).bind (fun j=>(l[j]?).map fun p=>(j,p.2))=none:=by
  cases hj:l.findIdx? (fun p=>k==p.1)with
  |none=>rfl
  |some j=>
   rw[hj]at hg;simp only[Option.bind_some,Option.map_eq_none_iff]at hg;simp[hg]
 rw[hn]at hr;simp[Instr.lookup,run_underlying ht,MapKept.run_getObj_map hb,K.check,hr,hz,Result.andThen]
theorem Lf{α:Type}{l:List (κ×α)}{k:κ}{j:Nat}(v:α)(h:l.findIdx? (fun p=>k==p.1)=some j):bX l k v=l.set j (k,v):=by
 induction l generalizing j with
 |nil=>simp at h
 |cons p r ih=>
  simp only[List.findIdx?_cons]at h;by_cases hk:p.1=k
  ·subst hk
   simp at h;subst h;simp[bX]
  ·have h1:(p.1==k)=false:=by simpa using hk
   have h2:(k==p.1)=false:=by simpa using fun e=>hk e.symm
   simp only[h2]at h;cases hf:r.findIdx? (fun p=>k==p.1)with
   |none=>simp[hf]at h
   |some i=>
    simp[hf]at h;subst h;simp[bX,h1,ih hf]
theorem wC{α:Type}{l:List (κ×α)}{k:κ}(v:α)(h:l.findIdx? (fun p=>k==p.1)=none):bX l k v=l++[(k,v)]:=by
 induction l with
 |nil=>rfl
 |cons p r ih=>
  simp only[List.findIdx?_cons]at h;by_cases hk:p.1=k
  ·subst hk;simp at h
  ·have h1:(p.1==k)=false:=by simpa using hk
   have h2:(k==p.1)=false:=by simpa using fun e=>hk e.symm
   simp only[h2]at h;cases hf:r.findIdx? (fun p=>k==p.1)with
   |none=>simp[bX,h1,ih hf]
   |some i=>simp[hf]at h
theorem dI.update{w:World}{m:Nat}{l:List (κ×Value)}(h:dI enc w m l)(K:eH P kt enc){t e:TypeId}(ht:P.underlying t=some (.map kt e))(k:κ)(v:Value):
  ∃w1,(Instr.mapUpdate t (.map (some m)) (enc k) v).run P w=.ok () w1/\dI enc w1 m (bX l k v)/\ai [m] w w1/\w1.heap.size=w.heap.size:=by
 obtain⟨es,clock,hb,hl,hst⟩:=h;have hlt:=aj hb;have hr:=iT (w:=w) K hl k;have hset: ∀o,({w with heap:=w.heap.setIfInBounds m o}:World).heap[m]?=some o:=fun o=>by
  show(w.heap.setIfInBounds m o)[m]?=_;simp[hlt]
 cases hj:l.findIdx? (fun p=>k==p.1)with
 |none=>
  rw[hj]at hr;refine⟨{w with heap:=w.heap.setIfInBounds m (.map (es.push ⟨enc k,v,clock⟩) (clock+1))},?_,⟨_,_,hset _,?_,MapKept.stamped_push hst ?_⟩,(ai.refl _ _).setObj (by simp) _,by simp⟩
  ·simp[Instr.mapUpdate,run_underlying ht,MapKept.run_getObj_map hb,MapKept.run_setObj_map _ hb,K.check,hr,Result.andThen]
  ·rw[wC v hj];simp[hl]
  ·intro x hx e
   have hx':=List.mem_map_of_mem (f:=fun e:MapEntry=>(e.key,e.val)) hx;rw[hl]at hx';obtain⟨p,hp,he⟩:=List.mem_map.1 hx';have:=K.inj _ _ ((Prod.mk.inj he).1.trans e);have h2:=List.findIdx?_eq_none_iff.1 hj p hp;rw[this]at h2;simp at h2
 |some j=>
  obtain⟨hjl,hjk,_⟩:=List.findIdx?_eq_some_iff_getElem.1 hj;have hjp:l[j]?=some l[j]:=List.getElem?_eq_getElem hjl;have hlen:es.size=l.length:=by have:=congrArg List.length hl;simpa using this
  have Dv:es[j]?=some es[j]:=Array.getElem?_eq_getElem (by omega);have hkey:es[j].key=enc k:=by
   have:=congrArg (fun q=>q[j]?) hl;simp only[List.getElem?_map,hjp,Option.map_some,Array.getElem?_toList,Dv,Option.some.injEq,Prod.mk.injEq]at this;rw[this.1,LawfulBEq.eq_of_beq hjk]
  rw[hj]at hr;simp only[Option.bind_some,hjp,Option.map_some]at hr;refine⟨{w with heap:=w.heap.setIfInBounds m (.map (es.modify j fun e=>{e with key:=enc k,val:=v}) clock)},?_,⟨_,_,hset _,?_,MapKept.stamped_modify hst j _ (fun _ _=>rfl) (fun e _ he=>by rw[Dv]at he;cases he;exact hkey.symm)⟩,(ai.refl _ _).setObj (by simp) _,by simp⟩
  ·simp[Instr.mapUpdate,run_underlying ht,MapKept.run_getObj_map hb,MapKept.run_setObj_map _ hb,K.check,hr,Result.andThen,Dv,hkey,K.stays]
  ·rw[Lf v hj]
   apply List.ext_getElem?;intro i;have hi:=congrArg (fun q=>q[i]?) hl;simp only[List.getElem?_map,Array.getElem?_toList]at hi;simp only[List.getElem?_map,Array.getElem?_toList,Array.getElem?_modify,List.getElem?_set];by_cases hij:j=i
   ·subst hij
    simp[Dv,hjl]
   ·simp[hij,hi]
end
end Go.Proofs.YtedcakchekaemaaGreatDoor
