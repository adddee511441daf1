import Derived.Test.YtedcakchekaemaaGreatDoorMn01
import Derived.Deep.AppendLies
import Derived.SliceStrings
import Derived.Deep.Slices
import Derived.Deep.Upon
import Derived.Test.YtedcakchekaemaaGreatDoorRows
import Derived.OpenShut
import Derived.Deep.LoopGhost
import Derived.BigQuiet
set_option maxRecDepth 100000
set_option maxHeartbeats 16000000
set_option linter.all false
namespace Go.Proofs.YtedcakchekaemaaGreatDoor
open Go.RowKit
section
variable {α : Type} {enc : α → List Value} {k : Nat}
def aC(enc:α->List Value)(l:List α):List Value:=l.flatMap enc
theorem aW(hk: ∀x,(enc x).length=k)(l:List α):(aC enc l).length=l.length*k:=by
 induction l with
 |nil=>simp[aC]
 |cons x r ih=>
  simp only[aC,List.flatMap_cons,List.length_append,List.length_cons]at ih⊢;rw[ih,hk,Nat.succ_mul,Nat.add_comm]
theorem bO(l l':List α):aC enc (l++l')=aC enc l++aC enc l':=by simp[aC]
theorem fe(hk: ∀x,(enc x).length=k): ∀(l:List α) (i c:Nat) (x:α),l[i]?=some x->c<k->(aC enc l)[i*k+c]?=(enc x)[c]?
 | [],i,c,x,h,_=>by simp at h
 |y::r,0,c,x,h,hc=>by
  simp at h;subst h;simp only[aC,List.flatMap_cons,Nat.zero_mul,Nat.zero_add];rw[List.getElem?_append_left (by rw[hk];exact hc)]
 |y::r,i+1,c,x,h,hc=>by
  simp only[List.getElem?_cons_succ]at h;have ih:=fe hk r i c x h hc;simp only[aC,List.flatMap_cons]at ih⊢;rw[List.getElem?_append_right (by rw[hk,Nat.succ_mul];omega),hk,<-ih]
  congr 1
  rw[Nat.succ_mul];omega
def qD(T:TypeId)(enc:α->List Value)(k:Nat)(w:World)(g cap:Nat)(l:List α):Prop:=
 ∃cur,w.heap[g]?=some (.cells cur T (0,0))/\l.length<=cap/\cap<=maxLen/\cur.size=cap*k/\cur.toList.take (l.length*k)=aC enc l
theorem qD.own{T:TypeId}{S:List Nat}{w w':World}{g cap:Nat}{l:List α}(h:qD T enc k w g cap l)(ho:ai S w w')(hg:g∉S):qD T enc k w' g cap l:=
 let⟨cur,h1,h2⟩:=h;⟨cur,ho.heap h1 hg,h2⟩
theorem qD.lt{T:TypeId}{w:World}{g cap:Nat}{l:List α}(h:qD T enc k w g cap l):g<w.heap.size:=let⟨_,h1,_⟩:=h;aj h1
theorem qD.of_owns{T:TypeId}{w:World}{base g cap n:Nat}{l:List α}(h:w.ownsRow base T k (.slice (some ⟨g,0,none⟩) n cap) n (aC enc l))(hn:n=l.length):qD T enc k w g cap l:=by
 subst hn;rcases h.2 with⟨h0,_⟩|⟨g',cap',cur,he,_,hb,h1,h2,h3,h4⟩
 ·cases h0
 ·cases he
  exact⟨cur,hb,h1,h2,h3,h4⟩
theorem qE{T:TypeId}{w:World}{v:Value}{n:Nat}{l:List α}(h:w.ownsRow 0 T k v n (aC enc l))(hn:n=l.length)(hv:v≠ .slice none 0 0):
  ∃g cap,v=.slice (some ⟨g,0,none⟩) l.length cap/\qD T enc k w g cap l:=by
 subst hn;rcases h.2 with⟨h0,_⟩|⟨g,cap,cur,he,_,hb,h1,h2,h3,h4⟩
 ·exact absurd h0 hv
 ·exact⟨g,cap,he,cur,hb,h1,h2,h3,h4⟩
theorem qD.owns{T:TypeId}{w:World}{g cap:Nat}{l:List α}(h:qD T enc k w g cap l)(hk: ∀x,(enc x).length=k):w.ownsRow 0 T k (.slice (some ⟨g,0,none⟩) l.length cap) l.length (aC enc l):=by
 obtain⟨cur,hb,h1,h2,h3,h4⟩:=h;exact⟨aW hk l,.inr ⟨g,cap,cur,rfl,Nat.zero_le _,hb,h1,h2,h3,h4⟩⟩
theorem qD.flat{T:TypeId}{w:World}{g cap:Nat}{l:List α}(h:qD T enc k w g cap l){t:Nat}{v:Value}(hv:(aC enc l)[t]?=some v)(ht:t<l.length*k):w.cell? ⟨g,t,none⟩=some v:=by
 obtain⟨cur,hb,h1,h2,h3,h4⟩:=h;rw[cell_of_row w g t cur _ _ hb];rw[<-h4,List.getElem?_take_of_lt ht,Array.getElem?_toList]at hv;exact hv
theorem qD.cell{T:TypeId}{w:World}{g cap:Nat}{l:List α}(h:qD T enc k w g cap l)(hk: ∀x,(enc x).length=k){i c:Nat}{x:α}{v:Value}(hx:l[i]?=some x)(hc:(enc x)[c]?=some v):w.cell? ⟨g,i*k+c,none⟩=some v:=by
 have hck:c<k:=by rw[<-hk x];exact(List.getElem?_eq_some_iff.1 hc).1
 have hi:i<l.length:=(List.getElem?_eq_some_iff.1 hx).1;refine h.flat ((fe hk l i c x hx hck).trans hc) ?_;have:(i+1)*k<=l.length*k:=Nat.mul_le_mul_right _ hi;rw[Nat.succ_mul]at this;omega
theorem qD.frozen{T:TypeId}{w:World}{g cap:Nat}{l:List α}(h:qD T enc k w g cap l)(j:Nat):w.frozen? ⟨g,j,none⟩=false:=by
 obtain⟨cur,hb,_⟩:=h;exact frozen_of_row w g j cur _ hb
theorem add_zero(b j:Nat):(⟨b,0,none⟩:Addr).add j=⟨b,j,none⟩:=by unfold Addr.add;split<;>simp_all
theorem EM{T:TypeId}(w:World):(w.alloc (.cells #[] T)).ownsRow 0 T k (.slice (some ⟨w.heap.size,0,none⟩) 0 0) 0 []:=
 ⟨by simp,.inr ⟨w.heap.size,0,#[],rfl,Nat.zero_le _,heap_alloc_new _ _,Nat.le_refl _,by unfold maxLen;omega,by simp,by simp⟩⟩
end
end Go.Proofs.YtedcakchekaemaaGreatDoor
namespace Go.Proofs.YtedcakchekaemaaGreatDoor
open Go.RowKit
def wX(k:IntKind)(w:World)(a:Option Addr)(len:Nat)(zs:Nat->Int):Prop:=
 len<=9223372036854775807/\(0<len-> ∃b o,a=some ⟨b,o,none⟩/\b<w.heap.size/\ ∀i,i<len->w.cell? ⟨b,o+i,none⟩=some (.int k (zs i))/\(Lit.int k (zs i)).wf=true)
theorem EU(k:IntKind)(w:World)(a:Option Addr)(zs:Nat->Int):wX k w a 0 zs:=⟨by omega,fun h=>by omega⟩
theorem JG{k:IntKind}{w:World}{a:Addr}{len cap:Nat}{zs:List Int}(hl:len<=cap)(hm:cap<=maxLen)(hz:zs.length=cap)(hc: ∀i,i<zs.length->w.cell? (a.add i)=some (.int k (zs.getD i 0)))
  (hw: ∀n∈zs,(Lit.int k n).wf=true):wX k w (some a) len (fun i=>zs.getD i 0):=by
 refine⟨by unfold maxLen at hm;omega,fun h=>?_⟩;obtain⟨b,o,sp⟩:=a;have h0:=hc 0 (by omega);have hs:sp=none:=by simpa[Addr.add]using World.cell?_spot h0
 subst hs;refine⟨b,o,rfl,by simpa[Addr.add]using block_lt_of_cell h0,fun i hi=>⟨?_,?_⟩⟩
 ·have:=hc i (by omega)
  unfold Addr.add at this;by_cases h0:i=0
  ·subst h0;simpa using this
  ·simpa[h0]using this
 ·have hi':i<zs.length:=by omega
  refine hw _ ?_;simp[List.getD,List.getElem?_eq_getElem hi']
inductive CK where
 |int (k:IntKind)
 |bool
 |str
 |sl
def CK.fits:CK->Value->Prop
 | .int k,v=> ∃n,v=.int k n/\(Lit.int k n).wf=true
 | .bool,v=> ∃b,v=.bool b
 | .str,v=> ∃s:ByteArray,v=.string s/\s.size<=maxLen
 | .sl,v=> ∃a n c,v=.slice a n c
def gD(P:Program)(g:TypeId->Option (List CK)):Nat->List Field->Option (List CK)
 |_,[]=>some []
 |off,f::r=>match g f.type with
  |some l=>if f.offset=off/\P.cellsOf f.type=l.length then(gD P g (off+l.length) r).map (l++ ·)else none
  |none=>none
def flat(P:Program):Nat->TypeId->Option (List CK)
 |0,_=>none
 |n+1,t=>match P.underlying t with
  |some .bool=>some [.bool]
  |some (.int k)=>some [.int k]
  |some .string=>some [.str]
  |some (.slice _)=>some [.sl]
  |some (.struct fs)=>match gD P (flat P n) 0 fs.toList with
   |some l=>if P.cellsOf t=l.length then some l else none
   |none=>none
  |_=>none
def Rn(ks:List CK)(cs:List Value):Prop:=cs.length=ks.length/\ ∀(i:Nat) (k:CK) (v:Value),ks[i]?=some k->cs[i]?=some v->k.fits v
section
variable {H : Type} {enc : TypeId × Value → H} {P : Program} {w : World} {base : Nat} {spare : Nat → Bool} {held : Bool}
theorem oU{g:TypeId->Option (List CK)}{n:Nat}{cs:List Value}
  (hg: ∀t ks cs' x,g t=some ks->DataW.trod enc P w base spare held n t cs'=some x->Rn ks cs'):
  ∀(fs:List Field) (off:Nat) (ks:List CK),gD P g off fs=some ks->off+ks.length<=cs.length->
   (∀f∈fs,∃x,DataW.trod enc P w base spare held n f.type ((cs.drop f.offset).take (P.cellsOf f.type))=some x)->
   ∀i k v,ks[i]?=some k->cs[off+i]?=some v->k.fits v
 | [],off,ks,h,_,_,i,k,v,hk,_=>by simp[gD]at h;subst h;simp at hk
 |f::r,off,ks,h,hlen,hx,i,k,v,hk,hv=>by
  unfold gD at h;split at h
  ·rename_i l hl
   split at h
   ·rename_i hc
    obtain⟨rest,hrest,rfl⟩:=Option.map_eq_some_iff.1 h;obtain⟨x,hx0⟩:=hx f (by simp);have hf:=hg _ _ _ _ hl hx0;simp only[List.length_append]at hlen;by_cases hi:i<l.length
    ·rw[List.getElem?_append_left hi]at hk
     refine hf.2 i k v hk ?_;rw[hc.1,hc.2,List.getElem?_take_of_lt hi,List.getElem?_drop];exact hv
    ·rw[List.getElem?_append_right (by omega)]at hk
     refine oU hg r (off+l.length) rest hrest (by omega) (fun f' hf'=>hx f' (by simp[hf'])) (i-l.length) k v hk ?_;rw[show off+l.length+(i-l.length)=off+i by omega];exact hv
   ·cases h
  ·cases h
theorem uH: ∀(n:Nat) {t:TypeId} {ks:List CK} {fuel:Nat} {cs:List Value} {x:DataW H×List MemPlace},flat P n t=some ks->DataW.trod enc P w base spare held fuel t cs=some x->Rn ks cs
 |0,t,ks,fuel,cs,x,h,_=>by simp[flat]at h
 |n+1,t,ks,fuel,cs,x,h,hx=>by
  unfold flat at h;split at h
  ·rename_i hu
   cases h;obtain⟨b,rfl,_⟩:=DataW.trod_bool hu hx;exact⟨rfl,fun i k v hk hv=>by
    match i with
    |0=>simp at hk hv;subst hk hv;exact⟨b,rfl⟩
    |i+1=>simp at hk⟩
  ·rename_i k0 hu
   cases h;obtain⟨m,rfl,_,hw⟩:=DataW.trod_int hu hx;exact⟨rfl,fun i k v hk hv=>by
    match i with
    |0=>simp at hk hv;subst hk hv;exact⟨m,rfl,hw⟩
    |i+1=>simp at hk⟩
  ·rename_i hu
   cases h;obtain⟨s,rfl,_,hs⟩:=DataW.trod_string hu hx;exact⟨rfl,fun i k v hk hv=>by
    match i with
    |0=>simp at hk hv;subst hk hv;exact⟨s,rfl,hs⟩
    |i+1=>simp at hk⟩
  ·rename_i e0 hu
   cases h;obtain⟨a,n,c,rfl⟩: ∃a n c,cs=[.slice a n c]:=by
    rcases Deep.open_slice hu hx with⟨h1,_⟩|⟨a,len,cap,_,_,_,_,h1,_⟩
    ·exact⟨_,_,_,h1⟩
    ·exact⟨_,_,_,h1⟩
   exact⟨rfl,fun i k v hk hv=>by
    match i with
    |0=>simp at hk hv;subst hk hv;exact⟨a,n,c,rfl⟩
    |i+1=>simp at hk⟩
  ·rename_i fs hu
   split at h
   ·rename_i l hl
    split at h
    ·rename_i hc
     cases h;obtain⟨xs,m,_,_,hlen,hxs,hf⟩:=DataW.trod_struct hu hx;refine⟨by rw[hlen,hc],fun i k v hk hv=>?_⟩;refine oU (n:=m) (cs:=cs) (g:=flat P n) (fun t ks cs' x h1 h2=>uH n h1 h2) fs.toList 0 ks hl (by rw[hlen,hc];omega) ?_ i k v hk (by rw[Nat.zero_add];exact hv);intro f hfm;obtain⟨j,hj⟩:=List.getElem?_of_mem hfm;have hj':fs[j]?=some f:=by simpa using hj
     have hjl:j<xs.length:=by
      rw[hxs];exact(Array.getElem?_eq_some_iff.1 hj').1
     exact⟨xs[j],by rw[hf j f hj',List.getElem?_eq_getElem hjl]⟩
    ·cases h
   ·cases h
  ·cases h
theorem JH{a:Addr}{n:Nat}{cs:List Value}(h:w.cells? base a n=some cs){b o:Nat}(ha:a=⟨b,o,none⟩){j:Nat}{v:Value}(hv:cs[j]?=some v):w.cell? ⟨b,o+j,none⟩=some v:=by
 obtain⟨_,hl,hc⟩:=World.cells?_some h;have hj:j<n:=by rw[<-hl];exact(List.getElem?_eq_some_iff.1 hv).1
 have:=hc j hj;rw[hv,ha]at this;unfold Addr.add at this;by_cases h0:j=0
 ·subst h0;simpa using this
 ·simpa[h0]using this
theorem EX{a:Addr}{n:Nat}{cs:List Value}(h:w.cells? base a n=some cs)(hn:0<n):a.spot=none/\a.block<w.heap.size:=by
 obtain⟨_,hl,hc⟩:=World.cells?_some h;have:=hc 0 hn;obtain⟨v,hv⟩: ∃v,cs[0]?=some v:=⟨cs[0],List.getElem?_eq_getElem (by omega)⟩;rw[hv]at this;have h1:w.cell? a=some v:=by simpa[Addr.add]using this
 exact⟨World.cell?_spot h1,block_lt_of_cell h1⟩
end
end Go.Proofs.YtedcakchekaemaaGreatDoor
namespace Go.Proofs.YtedcakchekaemaaGreatDoor
open Go.RowKit
section
variable {α : Type} {enc : α → List Value} {k : Nat} {P : Program}
def aA(enc:α->List Value)(w:World)(s:Value)(l:List α):Prop:=
 (s=.slice none 0 0/\l=[])\/ ∃b o c,s=.slice (some ⟨b,o,none⟩) l.length c/\ ∀j u,(aC enc l)[j]?=some u->w.cell? ⟨b,o+j,none⟩=some u
def Sl(T:TypeId)(enc:α->List Value)(k base:Nat)(w:World)(v:Value)(l:List α):Prop:=w.ownsRow base T k v l.length (aC enc l)
structure je (P:Program) (t T:TypeId) (enc:α->List Value) (k bytes:Nat):Prop where
 ut:P.underlying t=some (.slice T)
 info: ∃i z,P.info? T=some i/\i.zero=some z/\i.size=k/\i.bytes=bytes/\z.cells.size=k
 pos:0<k
 len: ∀x,(enc x).length=k
 one: ∀x,∀u∈enc x,u.oneCell'=true
theorem qF(h: ∀x,∀u∈enc x,u.oneCell'=true)(l:List α): ∀u∈aC enc l,u.oneCell'=true:=by
 intro u hu;obtain⟨x,_,hx⟩:=List.mem_flatMap.1 hu;exact h x u hx
theorem aA.nil(w:World):aA enc w (.slice none 0 0) []:=.inl ⟨rfl,rfl⟩
theorem aA.own{S:List Nat}{w w':World}{s:Value}{l:List α}(h:aA enc w s l)(ho:ai S w w')(hn: ∀b,s.ownBlock=some b->b∉S):aA enc w' s l:=by
 rcases h with h|⟨b,o,c,rfl,h⟩
 ·exact .inl h
 ·exact .inr ⟨b,o,c,rfl,fun j u hu=>(ho.cell (p:=⟨b,o+j,none⟩) (block_lt_of_cell (h j u hu)) (hn b rfl)).trans (h j u hu)⟩
theorem aA.nil'{w w':World}{s:Value}{l:List α}(h:aA enc w s l)(ho:ai [] w w'):aA enc w' s l:=h.own ho (by simp)
theorem aA.form{w:World}{s:Value}{l:List α}(h:aA enc w s l): ∃a c,s=.slice a l.length c:=by
 rcases h with⟨rfl,rfl⟩|⟨b,o,c,rfl,_⟩
 ·exact⟨_,_,rfl⟩
 ·exact⟨_,_,rfl⟩
theorem aA.at_{w:World}{a:Option Addr}{n c:Nat}{l:List α}(h:aA enc w (.slice a n c) l)(hk: ∀x,(enc x).length=k)(hl:0<l.length):
  ∃b o,a=some ⟨b,o,none⟩/\ ∀i x j u,l[i]?=some x->(enc x)[j]?=some u->w.cell? ⟨b,o+(i*k+j),none⟩=some u:=by
 rcases h with⟨_,rfl⟩|⟨b,o,c,he,h⟩
 ·simp at hl
 ·cases he
  exact⟨b,o,rfl,fun i x j u hx hu=>h _ _ ((fe hk l i j x hx (by rw[<-hk x];exact(List.getElem?_eq_some_iff.1 hu).1)).trans hu)⟩
theorem aA.new{T:TypeId}(w:World)(x:α)(c:Nat):aA enc (w.alloc (.cells (enc x).toArray T)) (.slice (some ⟨w.heap.size,0,none⟩) 1 c) [x]:=by
 refine .inr ⟨w.heap.size,0,c,rfl,fun j u hu=>?_⟩;rw[cell_of_row _ _ _ _ _ _ (heap_alloc_new w (.cells (enc x).toArray T))];simpa[aC]using hu
theorem Sl.nil(T:TypeId)(base:Nat)(w:World):Sl T enc k base w (.slice none 0 0) []:=⟨by simp[aC],.inl ⟨rfl,rfl⟩⟩
theorem Sl.form{T:TypeId}{base:Nat}{w:World}{v:Value}{l:List α}(h:Sl T enc k base w v l):(v=.slice none 0 0/\l=[])\/ ∃g cap,v=.slice (some ⟨g,0,none⟩) l.length cap/\base<=g/\qD T enc k w g cap l:=by
 rcases h.2 with⟨h0,h1⟩|⟨g,cap,cur,he,hb,hg,h1,h2,h3,h4⟩
 ·exact .inl ⟨h0,List.eq_nil_of_length_eq_zero h1⟩
 ·exact .inr ⟨g,cap,he,hb,cur,hg,h1,h2,h3,h4⟩
theorem Sl.sl{T:TypeId}{base:Nat}{w:World}{v:Value}{l:List α}(h:Sl T enc k base w v l): ∃a cap,v=.slice a l.length cap:=by
 rcases h.form with⟨rfl,rfl⟩|⟨g,cap,rfl,_⟩
 ·exact⟨_,_,rfl⟩
 ·exact⟨_,_,rfl⟩
theorem Sl.block{T:TypeId}{base:Nat}{w:World}{v:Value}{l:List α}(h:Sl T enc k base w v l){g:Nat}(hg:v.ownBlock=some g):base<=g/\g<w.heap.size:=by
 rcases h.form with⟨rfl,_⟩|⟨g',cap,rfl,h1,h2⟩
 ·simp[Value.ownBlock]at hg
 ·simp[Value.ownBlock]at hg
  subst hg;exact⟨h1,h2.lt⟩
theorem Sl.own{S:List Nat}{T:TypeId}{base:Nat}{w w':World}{v:Value}{l:List α}(h:Sl T enc k base w v l)(ho:ai S w w')(hS: ∀b,v.ownBlock=some b->b∉S):Sl T enc k base w' v l:=by
 obtain⟨h1,h2⟩:=h;refine⟨h1,?_⟩;rcases h2 with h2|⟨g,cap,cur,rfl,hb,hg,h3⟩
 ·exact .inl h2
 ·exact .inr ⟨g,cap,cur,rfl,hb,ho.heap hg (hS g rfl),h3⟩
theorem Sl.nil'{T:TypeId}{base:Nat}{w w':World}{v:Value}{l:List α}(h:Sl T enc k base w v l)(ho:ai [] w w'):Sl T enc k base w' v l:=h.own ho (by simp)
theorem Sl.mono{T:TypeId}{base base':Nat}{w:World}{v:Value}{l:List α}(h:Sl T enc k base w v l)(hb:base'<=base):Sl T enc k base' w v l:=by
 obtain⟨h1,h2⟩:=h;refine⟨h1,?_⟩;rcases h2 with h2|⟨g,cap,cur,he,hg,h3⟩
 ·exact .inl h2
 ·exact .inr ⟨g,cap,cur,he,Nat.le_trans hb hg,h3⟩
theorem Sl.empty(T:TypeId)(w:World):Sl T enc k w.heap.size (w.alloc (.cells #[] T)) (.slice (some ⟨w.heap.size,0,none⟩) 0 0) ([]:List α):=
 ⟨by simp[aC],.inr ⟨w.heap.size,0,#[],rfl,Nat.le_refl _,heap_alloc_new _ _,Nat.le_refl _,by unfold maxLen;omega,by simp,by simp[aC]⟩⟩
theorem Sl.made{T:TypeId}{w:World}{cap:Nat}{cur:Array Value}(hc:cap<=maxLen)(hs:cur.size=cap*k):Sl T enc k w.heap.size (w.alloc (.cells cur T)) (.slice (some ⟨w.heap.size,0,none⟩) 0 cap) ([]:List α):=
 ⟨by simp[aC],.inr ⟨w.heap.size,cap,cur,rfl,Nat.le_refl _,heap_alloc_new _ _,Nat.zero_le _,hc,hs,by simp[aC]⟩⟩
theorem Sl.reads{T:TypeId}{base:Nat}{w:World}{v:Value}{l:List α}(h:Sl T enc k base w v l)(hk: ∀x,(enc x).length=k):aA enc w v l:=by
 rcases h.form with⟨rfl,rfl⟩|⟨g,cap,rfl,_,hR⟩
 ·exact .inl ⟨rfl,rfl⟩
 ·refine .inr ⟨g,0,cap,rfl,fun j u hu=>?_⟩
  rw[Nat.zero_add];refine hR.flat hu ?_;rw[<-aW hk];exact(List.getElem?_eq_some_iff.1 hu).1
theorem Sl.of_row{T:TypeId}{base:Nat}{w:World}{g cap:Nat}{l:List α}(h:qD T enc k w g cap l)(hk: ∀x,(enc x).length=k)(hb:base<=g):Sl T enc k base w (.slice (some ⟨g,0,none⟩) l.length cap) l:=by
 obtain⟨cur,hc,h1,h2,h3,h4⟩:=h;exact⟨aW hk l,.inr ⟨g,cap,cur,rfl,hb,hc,h1,h2,h3,h4⟩⟩
theorem Sl.take{T t:TypeId}{base bytes:Nat}{w:World}{v:Value}{l:List α}(h:Sl T enc k base w v l)(E:je P t T enc k bytes){i:Nat}(hi:i<=l.length):
  ∃v1,(∀W,(Instr.sliceAt t v none (some (.int .i64 i)) none).run P W=.ok v1 W)/\aA enc w v1 (l.take i)/\(∀b,v1.ownBlock=some b->v.ownBlock=some b):=by
 obtain⟨inf,z,BF,_,hsz,_,_⟩:=E.info;have hs: ∀W,(sizeOf T).run P W=.ok k W:=fun W=>by simp[sizeOf,typeInfo,BF,hsz]
 have hi0:(0:Int)<=i:=by omega
 rcases h.form with⟨rfl,rfl⟩|⟨g,cap,rfl,_,hR⟩
 ·obtain rfl:i=0:=by simpa using hi
  refine⟨.slice none 0 0,fun W=>?_,.inl ⟨rfl,by simp⟩,fun b hb=>hb⟩;simp[Instr.sliceAt,Instr.slice,run_underlying E.ut,Instr.sliceBounds,run_sliceBound,hs,Result.andThen]
 ·have hcap:l.length<=cap:=by obtain⟨_,_,h,_⟩:=hR;exact h
  refine⟨.slice (some ⟨g,0,none⟩) i cap,fun W=>?_,.inr ⟨g,0,cap,by rw[List.length_take_of_le hi],fun j u hu=>?_⟩,fun b hb=>by simpa[Value.ownBlock]using hb⟩
  ·have h2:(i:Int)<=cap:=by omega
   simp[Instr.sliceAt,Instr.slice,run_underlying E.ut,Instr.sliceBounds,run_sliceBound,hs,Result.andThen,hi0,h2,Addr.add]
  ·rw[Nat.zero_add]
   have hj:=(List.getElem?_eq_some_iff.1 hu).1;have e:(aC enc l)[j]?=some u:=by
    conv=>lhs;rw[<-List.take_append_drop i l,bO]
    rw[List.getElem?_append_left hj];exact hu
   refine hR.flat e ?_;rw[<-aW E.len];exact(List.getElem?_eq_some_iff.1 e).1
theorem Sl.drop{T t:TypeId}{base bytes:Nat}{w:World}{v:Value}{l:List α}(h:Sl T enc k base w v l)(E:je P t T enc k bytes){i:Nat}(hi:i<=l.length):
  ∃v1,(∀W,(Instr.sliceAt t v (some (.int .i64 i)) none none).run P W=.ok v1 W)/\aA enc w v1 (l.drop i)/\(∀b,v1.ownBlock=some b->v.ownBlock=some b):=by
 obtain⟨inf,z,BF,_,hsz,_,_⟩:=E.info;have hs: ∀W,(sizeOf T).run P W=.ok k W:=fun W=>by simp[sizeOf,typeInfo,BF,hsz]
 have hi0:(0:Int)<=i:=by omega
 rcases h.form with⟨rfl,rfl⟩|⟨g,cap,rfl,_,hR⟩
 ·obtain rfl:i=0:=by simpa using hi
  refine⟨.slice none 0 0,fun W=>?_,.inl ⟨rfl,by simp⟩,fun b hb=>hb⟩;simp[Instr.sliceAt,Instr.slice,run_underlying E.ut,Instr.sliceBounds,run_sliceBound,hs,Result.andThen]
 ·have h2:(i:Int)<=l.length:=by omega
  have hl:(aC enc (l.take i)).length=i*k:=by rw[aW E.len,List.length_take_of_le hi]
  by_cases hc:cap=i
  ·refine⟨.slice (some ⟨g,0,none⟩) (l.length-i) (cap-i),fun W=>?_,.inr ⟨g,0,cap-i,by rw[List.length_drop],fun j u hu=>?_⟩,fun b hb=>by simpa[Value.ownBlock]using hb⟩
   ·simp[Instr.sliceAt,Instr.slice,run_underlying E.ut,Instr.sliceBounds,run_sliceBound,hs,Result.andThen,hi0,h2,hc]
   ·exfalso
    have hcap:l.length<=cap:=by obtain⟨_,_,h,_⟩:=hR;exact h
    have hj:=(List.getElem?_eq_some_iff.1 hu).1;rw[aW E.len,List.length_drop,show l.length-i=0 by omega]at hj;omega
  ·refine⟨.slice (some ⟨g,i*k,none⟩) (l.length-i) (cap-i),fun W=>?_,.inr ⟨g,i*k,cap-i,by rw[List.length_drop],fun j u hu=>?_⟩,fun b hb=>by simpa[Value.ownBlock]using hb⟩
   ·simp[Instr.sliceAt,Instr.slice,run_underlying E.ut,Instr.sliceBounds,run_sliceBound,hs,Result.andThen,hi0,h2,hc,add_zero]
   ·have e:(aC enc l)[i*k+j]?=some u:=by
     conv=>lhs;rw[<-List.take_append_drop i l,bO]
     rw[List.getElem?_append_right (by omega),hl,Nat.add_sub_cancel_left];exact hu
    refine hR.flat e ?_;rw[<-aW E.len];exact(List.getElem?_eq_some_iff.1 e).1
theorem pF{t T:TypeId}{bytes:Nat}(E:je P t T enc k bytes)(ty:TypeId){W w:World}(hW:ai [] W w){v s:Value}{l l2:List α}(hv:Sl T enc k W.heap.size w v l)(hs:aA enc w s l2)
  (hlen:(l.length+l2.length)*bytes<=140737488355328)(hmax:l.length+l2.length<=maxLen):
  ∃v' w',(Builtin.append_ #[t,t] ty #[v,s]).run P w=.ok v' w'/\Sl T enc k W.heap.size w' v' (l++l2)/\ai [] W w'/\(v'=.slice none 0 0↔v=.slice none 0 0/\l2=[])/\(∀g,v'.ownBlock=some g->v.ownBlock=some g\/w.heap.size<=g):=by
 obtain⟨i,z,hi,hz,hsz,hby,hzs⟩:=E.info;rcases hs with⟨rfl,rfl⟩|⟨b,o,c,rfl,hs⟩
 ·obtain⟨a,cap,rfl⟩:=hv.sl
  have hcap:l.length<=cap:=by
   rcases hv.form with⟨h,rfl⟩|⟨g,cap',h,_,_,_,h1,_⟩
   ·simp
   ·cases h;exact h1
  refine⟨_,w,run_append_nothing w _ t ty _ i E.ut hi a l.length cap hcap _ (Src.ofNil w E.ut 0),by simpa using hv,hW,by simp,fun g hg=>.inl hg⟩
 ·have hnews: ∀j u,(aC enc l2)[j]?=some u->w.cell? ((⟨b,o,none⟩:Addr).add j)=some u:=fun j u hu=>by
   have e:(⟨b,o,none⟩:Addr).add j=⟨b,o+j,none⟩:=by unfold Addr.add;split<;>simp_all
   rw[e];exact hs j u hu
  obtain⟨v',w',hr,h2,h3,h4,h5⟩:=run_append_own_at (P:=P) w W.heap.size t ty T i z k bytes E.ut hi hz hsz hby hzs E.pos v l.length (aC enc l) hv ⟨b,o,none⟩ l2.length c (aC enc l2) (aW E.len l2) hnews (qF E.one l2) hmax hlen hW.size;refine⟨v',w',hr,?_,hW.trans' (S':=v.ownBlock.toList) ⟨h3.os,h3.tape,h3.output,h3.size,fun q hq hn=>h3.block q hq (by cases hb:v.ownBlock with|none=>simp|some g=>rw[hb]at hn;simpa using hn)⟩ ?_,?_,?_⟩
  ·unfold Sl
   rw[List.length_append,bO];exact h2
  ·intro x hx
   right
   cases hb:v.ownBlock with
   |none=>rw[hb]at hx;simp at hx
   |some g=>rw[hb]at hx;simp at hx;subst hx;exact(hv.block hb).1
  ·rw[h4]
   constructor
   ·rintro⟨a,b⟩;exact⟨a,List.eq_nil_of_length_eq_zero b⟩
   ·rintro⟨a,rfl⟩;exact⟨a,rfl⟩
  ·intro g hg
   rcases h5 with h5|h5
   ·exact .inl (h5▸hg)
   ·rw[h5]at hg;cases hg;exact .inr (Nat.le_refl _)
theorem iX{ops:Array Oper}{rest:List Oper}{o:Oper}{a:Act}{Q:Exit->Act->World->Prop}(hgd:o.guard=none)(s x:Operand){t T:TypeId}(ho:o.op=.call {callee:=.builtin .append,args:=#[s,x],argTypes:=#[t,t]})
  {bytes:Nat}(E:je P t T enc k bytes){W w:World}(hW:ai [] W w){v sv:Value}{l l2:List α}(hs:a.eval s=v)(hv:Sl T enc k W.heap.size w v l)(hx:a.eval x=sv)(hsv:aA enc w sv l2)
  (hlen:(l.length+l2.length)*bytes<=140737488355328)(hmax:l.length+l2.length<=maxLen)
  (h: ∀v' w',Sl T enc k W.heap.size w' v' (l++l2)->ai [] W w'->(v'=.slice none 0 0↔v=.slice none 0 0/\l2=[])->(∀g,v'.ownBlock=some g->v.ownBlock=some g\/w.heap.size<=g)->wpList P ops Q rest (a.put o.dst v') w'):
  wpList P ops Q (o::rest) a w:=by
 refine wpList_plain hgd fun K hK=>?_
 obtain⟨v',w',hr,h2,h3,h4,h5⟩:=pF (P:=P) E o.type hW hv hsv hlen hmax;unfold Oper.wp execOp;simp only[ho,resolve,invoke,builtin,Sem.run_bind,Sem.run_pure,Result.andThen_ok,List.map_toArray,List.map_cons,List.map_nil,hs,hx,hr];exact hK _ _ (h v' w' h2 h3 h4 h5)
theorem jO{t T:TypeId}{bytes:Nat}(E:je P t T enc k bytes)(ty:TypeId){W w:World}(hW:ai [] W w){v s:Value}{l l2:List α}(hv:Sl T enc k W.heap.size w v l)(hs:aA enc w s l2)
  (hlen:(l.length+l2.length)*bytes<=140737488355328)(hmax:l.length+l2.length<=maxLen):
  ∃v' w',(Builtin.append_ #[t,t] ty #[v,s]).run P w=.ok v' w'/\Sl T enc k W.heap.size w' v' (l++l2)/\ai [] W w'/\(v'=.slice none 0 0↔v=.slice none 0 0/\l2=[])/\(∀g,v'.ownBlock=some g->v.ownBlock=some g\/w.heap.size<=g)/\ai v.ownBlock.toList w w':=by
 obtain⟨i,z,hi,hz,hsz,hby,hzs⟩:=E.info;rcases hs with⟨rfl,rfl⟩|⟨b,o,c,rfl,hs⟩
 ·obtain⟨a,cap,rfl⟩:=hv.sl
  have hcap:l.length<=cap:=by
   rcases hv.form with⟨h,rfl⟩|⟨g,cap',h,_,_,_,h1,_⟩
   ·simp
   ·cases h;exact h1
  refine⟨_,w,run_append_nothing w _ t ty _ i E.ut hi a l.length cap hcap _ (Src.ofNil w E.ut 0),by simpa using hv,hW,by simp,fun g hg=>.inl hg,ai.refl _ _⟩
 ·have hnews: ∀j u,(aC enc l2)[j]?=some u->w.cell? ((⟨b,o,none⟩:Addr).add j)=some u:=fun j u hu=>by
   have e:(⟨b,o,none⟩:Addr).add j=⟨b,o+j,none⟩:=by unfold Addr.add;split<;>simp_all
   rw[e];exact hs j u hu
  obtain⟨v',w',hr,h2,h3,h4,h5⟩:=run_append_own_at (P:=P) w W.heap.size t ty T i z k bytes E.ut hi hz hsz hby hzs E.pos v l.length (aC enc l) hv ⟨b,o,none⟩ l2.length c (aC enc l2) (aW E.len l2) hnews (qF E.one l2) hmax hlen hW.size;have hOv:ai v.ownBlock.toList w w':=⟨h3.os,h3.tape,h3.output,h3.size,fun q hq hn=>h3.block q hq (by cases hb:v.ownBlock with|none=>simp|some g=>rw[hb]at hn;simpa using hn)⟩;refine⟨v',w',hr,?_,hW.trans' (S':=v.ownBlock.toList) hOv ?_,?_,?_,hOv⟩
  ·unfold Sl
   rw[List.length_append,bO];exact h2
  ·intro x hx
   right
   cases hb:v.ownBlock with
   |none=>rw[hb]at hx;simp at hx
   |some g=>rw[hb]at hx;simp at hx;subst hx;exact(hv.block hb).1
  ·rw[h4]
   constructor
   ·rintro⟨a,b⟩;exact⟨a,List.eq_nil_of_length_eq_zero b⟩
   ·rintro⟨a,rfl⟩;exact⟨a,rfl⟩
  ·intro g hg
   rcases h5 with h5|h5
   ·exact .inl (h5▸hg)
   ·rw[h5]at hg;cases hg;exact .inr (Nat.le_refl _)
theorem aO{ops:Array Oper}{rest:List Oper}{o:Oper}{a:Act}{Q:Exit->Act->World->Prop}(hgd:o.guard=none)(s x:Operand){t T:TypeId}(ho:o.op=.call {callee:=.builtin .append,args:=#[s,x],argTypes:=#[t,t]})
  {bytes:Nat}(E:je P t T enc k bytes){W w:World}(hW:ai [] W w){v sv:Value}{l l2:List α}(hs:a.eval s=v)(hv:Sl T enc k W.heap.size w v l)(hx:a.eval x=sv)(hsv:aA enc w sv l2)
  (hlen:(l.length+l2.length)*bytes<=140737488355328)(hmax:l.length+l2.length<=maxLen)
  (h: ∀v' w',Sl T enc k W.heap.size w' v' (l++l2)->ai [] W w'->(v'=.slice none 0 0↔v=.slice none 0 0/\l2=[])->(∀g,v'.ownBlock=some g->v.ownBlock=some g\/w.heap.size<=g)->ai v.ownBlock.toList w w'->wpList P ops Q rest (a.put o.dst v') w'):
  wpList P ops Q (o::rest) a w:=by
 refine wpList_plain hgd fun K hK=>?_
 obtain⟨v',w',hr,h2,h3,h4,h5,h6⟩:=jO (P:=P) E o.type hW hv hsv hlen hmax;unfold Oper.wp execOp;simp only[ho,resolve,invoke,builtin,Sem.run_bind,Sem.run_pure,Result.andThen_ok,List.map_toArray,List.map_cons,List.map_nil,hs,hx,hr];exact hK _ _ (h v' w' h2 h3 h4 h5 h6)
theorem oQ{ops:Array Oper}{o:Oper}{a:Act}{K:Act->World->Prop}{Q:Exit->Act->World->Prop}{E:Prop}(hgd:o.guard=none)(s x:Operand){t T:TypeId}(ho:o.op=.call {callee:=.builtin .append,args:=#[s,x],argTypes:=#[t,t]})
  {bytes:Nat}(E1:je P t T enc k bytes){W w:World}(hW:ai [] W w){v sv:Value}{l l2:List α}(hs:a.eval s=v)(hv:Sl T enc k W.heap.size w v l)(hx:a.eval x=sv)(hsv:aA enc w sv l2)
  (hlen:(l.length+l2.length)*bytes<=140737488355328)(hmax:l.length+l2.length<=maxLen)
  (h: ∀v' w',Sl T enc k W.heap.size w' v' (l++l2)->ai [] W w'->(v'=.slice none 0 0↔v=.slice none 0 0/\l2=[])->(∀g,v'.ownBlock=some g->v.ownBlock=some g\/w.heap.size<=g)->K (a.put o.dst v') w'):
  if Region.wanted o (yielded ops a.tmps)=true then Oper.wp P o a w K Q else E:=by
 have hw:Region.wanted o (yielded ops a.tmps)=true:=by simp[Region.wanted,hgd]
 rw[if_pos hw];obtain⟨v',w',hr,h2,h3,h4,h5⟩:=pF (P:=P) E1 o.type hW hv hsv hlen hmax;unfold Oper.wp execOp;simp only[ho,resolve,invoke,builtin,Sem.run_bind,Sem.run_pure,Result.andThen_ok,List.map_toArray,List.map_cons,List.map_nil,hs,hx,hr];exact h v' w' h2 h3 h4 h5
end
end Go.Proofs.YtedcakchekaemaaGreatDoor
namespace Go.Proofs.YtedcakchekaemaaGreatDoor
open Go.RowKit
structure bD where
 name:ByteArray
 has:Bool
 al:Int
 ty:Int
 null:Bool
 vk:Int
 vn:Int
 vs:ByteArray
def bD.cells(x:bD):List Value:=[.string x.name,.bool x.has,.int .u64 x.al,.int .u32 x.ty,.bool x.null,.int .i64 x.vk,.int .u64 x.vn,.string x.vs]
def bD.wf(x:bD):Prop:=0<=x.al/\x.al<=18446744073709551615/\0<=x.ty/\x.ty<=4294967295/\ -9223372036854775808<=x.vk/\x.vk<=9223372036854775807/\0<=x.vn/\x.vn<=18446744073709551615
def bD.zero:bD:=⟨⟨#[]⟩,false,0,0,false,0,0,⟨#[]⟩⟩
def bD.val(x:bD):Value:=.agg x.cells.toArray
instance:Inhabited bD:=⟨bD.zero⟩
theorem bD.cells_len(x:bD):x.cells.length=8:=rfl
end Go.Proofs.YtedcakchekaemaaGreatDoor
namespace Go.Proofs.YtedcakchekaemaaGreatDoor
open Go.RowKit Go.ChangeShapes
structure bP where
 name:ByteArray
 has:Bool
 al:Int
 time:Int
 ty:Int
 hist:Bool
 trans:Bool
 null:Bool
 s1:Option Addr×Nat×Nat
 s2:Option Addr×Nat×Nat
 vk:Int
 vn:Int
 vs:ByteArray
 s3:Option Addr×Nat×Nat
 s4:Option Addr×Nat×Nat
def bP.cells(x:bP):List Value:=[.string x.name,.bool x.has,.int .u64 x.al,.int .u64 x.time,.int .u32 x.ty,.bool x.hist,.bool x.trans,.bool x.null,.slice x.s1.1 x.s1.2.1 x.s1.2.2,.slice x.s2.1 x.s2.2.1 x.s2.2.2,.int .i64 x.vk,.int .u64 x.vn,.string x.vs,.slice x.s3.1 x.s3.2.1 x.s3.2.2,.slice x.s4.1 x.s4.2.1 x.s4.2.2]
def bP.wf(x:bP):Prop:=0<=x.al/\x.al<=18446744073709551615/\0<=x.ty/\x.ty<=4294967295/\ -9223372036854775808<=x.vk/\x.vk<=9223372036854775807/\0<=x.vn/\x.vn<=18446744073709551615
def bP.val(x:bP):Value:=.agg x.cells.toArray
def bP.zero:bP:=⟨ByteArray.empty,false,0,0,0,false,false,false,(none,0,0),(none,0,0),0,0,ByteArray.empty,(none,0,0),(none,0,0)⟩
instance:Inhabited bP:=⟨bP.zero⟩
theorem bP.cells_len(x:bP):x.cells.length=15:=rfl
def bR{α:Type}(enc:α->List Value)(k:Nat)(good:α->Prop)(w:World)(a:Option Addr)(L:List α):Prop:=
 L.length<=140737488351232/\(0<L.length-> ∃b o,a=some ⟨b,o,none⟩/\b<w.heap.size/\ ∀i x,L[i]?=some x->good x/\ ∀j v,(enc x)[j]?=some v->w.cell? ⟨b,o+i*k+j,none⟩=some v)
section
variable {α : Type} {enc : α → List Value} {k : Nat} {good : α → Prop}
theorem bR.own{S:List Nat}{w w':World}{a:Option Addr}{L:List α}(h:bR enc k good w a L)(ho:ai S w w')(hS: ∀b,a.map (·.block)=some b->b∉S):bR enc k good w' a L:=by
 obtain⟨h1,h2⟩:=h;refine⟨h1,fun hl=>?_⟩;obtain⟨b,o,rfl,hb,hx⟩:=h2 hl;exact⟨b,o,rfl,Nat.lt_of_lt_of_le hb ho.size,fun i x hi=>⟨(hx i x hi).1,fun j v hj=>(ho.cell (p:=⟨b,o+i*k+j,none⟩) hb (hS b rfl)).trans ((hx i x hi).2 j v hj)⟩⟩
theorem bR.nil'{w w':World}{a:Option Addr}{L:List α}(h:bR enc k good w a L)(ho:ai [] w w'):bR enc k good w' a L:=h.own ho (by simp)
theorem bR.below{w w':World}{a:Option Addr}{L:List α}(h:bR enc k good w a L){B:Nat}(ho:Below B w w')(hB:w.heap.size<=B):bR enc k good w' a L:=h.nil' (ai.of_below ho hB)
theorem bR.all_good{w:World}{a:Option Addr}{L:List α}(h:bR enc k good w a L): ∀x∈L,good x:=by
 intro x hx;obtain⟨i,hi⟩:=List.getElem?_of_mem hx;have hl:0<L.length:=by
  rcases L with _|⟨y,r⟩
  ·cases hx
  ·simp
 obtain⟨b,o,_,_,h3⟩:=h.2 hl;exact(h3 i x hi).1
theorem bR.empty(w:World)(a:Option Addr):bR enc k good w a []:=⟨by simp,fun h=>by simp at h⟩
theorem bR.of_row{T:TypeId}{w:World}{g cap:Nat}{L:List α}(h:qD T enc k w g cap L)(hk: ∀x,(enc x).length=k)(hl:L.length<=140737488351232)(hg: ∀x∈L,good x):bR enc k good w (some ⟨g,0,none⟩) L:=by
 refine⟨hl,fun _=>⟨g,0,rfl,h.lt,fun i x hi=>⟨hg x (List.mem_of_getElem? hi),fun j v hj=>?_⟩⟩⟩;have:=h.cell hk hi hj;simpa using this
theorem bR.of_owns{T:TypeId}{w:World}{a:Option Addr}{n cap:Nat}{L:List α}(h:w.ownsRow 0 T k (.slice a n cap) n (aC enc L))(hn:n=L.length)(hk: ∀x,(enc x).length=k)(hl:L.length<=140737488351232)(hg: ∀x∈L,good x):bR enc k good w a L:=by
 by_cases h0:L.length=0
 ·rw[List.eq_nil_of_length_eq_zero h0]
  exact bR.empty _ _
 ·by_cases hv:(Value.slice a n cap)=.slice none 0 0
  ·cases hv
   omega
  ·obtain⟨g,cap',he,hR⟩:=qE h hn hv
   cases he;exact bR.of_row hR hk hl hg
end
abbrev aY:=bR bD.cells 8 bD.wf
abbrev dR:=bR bP.cells 15 bP.wf
end Go.Proofs.YtedcakchekaemaaGreatDoor
namespace Go.Proofs.YtedcakchekaemaaGreatDoor
open Go.RowKit
def lM(L:List bD)(n:ByteArray):Option Nat:=L.findIdx? fun x=>x.name==n
def fI(L:List bD)(n:ByteArray):Int:=match lM L n with|some i=>i|none=> -1
def dJ(L:List bD)(i:Nat):bD:=L.getD i bD.zero
theorem nk{L:List bD}{i:Nat}(h:i<L.length):L[i]?=some (dJ L i):=by simp[dJ,List.getD,h]
theorem Fs{L:List bD}{n:ByteArray}{i:Nat}(hi:i<L.length)(h0: ∀j,j<i->((dJ L j).name==n)=false)(h1:((dJ L i).name==n)=true):lM L n=some i:=by
 unfold lM;rw[List.findIdx?_eq_some_iff_getElem];simp only[dJ,List.getD,List.getElem?_eq_getElem hi,Option.getD_some]at h1;refine⟨hi,h1,fun j hj=>?_⟩;have:=h0 j hj;simp only[dJ,List.getD,List.getElem?_eq_getElem (show j<L.length by omega),Option.getD_some]at this;simp[this]
theorem Fu{L:List bD}{n:ByteArray}(h0: ∀j,j<L.length->((dJ L j).name==n)=false):lM L n=none:=by
 unfold lM;rw[List.findIdx?_eq_none_iff];intro x hx;obtain⟨j,hj,rfl⟩:=List.getElem_of_mem hx;have:=h0 j hj;simpa only[dJ,List.getD,List.getElem?_eq_getElem hj,Option.getD_some]using this
theorem Cu{L:List bD}{n:ByteArray}{i:Nat}(h:lM L n=some i):i<L.length/\(dJ L i).name=n:=by
 obtain⟨hl,hk,_⟩:=List.findIdx?_eq_some_iff_getElem.1 h;refine⟨hl,?_⟩;simp only[dJ,List.getD,List.getElem?_eq_getElem hl,Option.getD_some];exact LawfulBEq.eq_of_beq hk
theorem rW(L:List bD)(n:ByteArray):fI L n<L.length/\ -1<=fI L n:=by
 unfold fI;cases h:lM L n with
 |none=>simp only;omega
 |some i=>have:=(Cu h).1;simp only;omega
theorem bR.item{w:World}{a:Option Addr}{L:List bD}(h:aY w a L){k:Nat}(hk:k<L.length): ∃b o,a=some ⟨b,o,none⟩/\b<w.heap.size/\(dJ L k).wf/\ ∀j v,(dJ L k).cells[j]?=some v->w.cell? ⟨b,o+k*8+j,none⟩=some v:=by
 obtain⟨b,o,e,hb,hx⟩:=h.2 (by omega);exact⟨b,o,e,hb,hx k _ (nk hk)⟩
theorem Fv(kb:Nat)(k2:ByteArray)(nm:ByteArray)(hs:Bool)(al ty:Int)(nu:Bool)(vk vn:Int)(vs:ByteArray)(w:World)(h2:w.cell? ⟨kb,0,none⟩=some (.string k2)):
  Calls Tryz.prog 336 #[.agg #[.string nm,.bool hs,.int .u64 al,.int .u32 ty,.bool nu,.int .i64 vk,.int .u64 vn,.string vs],.pointer (some ⟨kb,0,none⟩)] w fun e w'=>e=.returned (.bool (nm==k2))/\ai [] w w':=by
 rw[beq_toListBytes];have hkb:=block_lt_of_cell h2;have h2': ∀o,(w.alloc o).cell? ⟨kb,0,none⟩=some (.string k2):=fun o=>((ai.refl [] w).alloc o).cell (p:=⟨kb,0,none⟩) hkb (by simp) |>.trans h2
 go_enter Tryz.func336,Tryz.ntmps336
 go_wp2_with fail
 go_ret
 exact⟨rfl,(ai.refl _ _).alloc _⟩
theorem JY(a:Option Addr)(L:List bD)(cap kb:Nat)(key:ByteArray)(w:World)(h:aY w a L)(hk:w.cell? ⟨kb,0,none⟩=some (.string key)):
  Calls Tryz.prog 335 #[.slice a L.length cap,.func (.func 336) #[] #[.pointer (some ⟨kb,0,none⟩)]] w fun e w'=>e=.returned (.int .i64 (fI L key))/\ai [] w w':=by
 have hkb:=block_lt_of_cell hk;have hl:=h.1;generalize hr:fI L key=r;change Hid _ at hr;replace h:=af h;go_enter Tryz.func335,Tryz.ntmps335
 go_wp2_with fail
 go_loopg[8] L.length (fun g s8 wr=> ∃k:Nat,k<=L.length/\g=L.length-k/\s8=.int .i64 k/\ai [] w wr/\Hid (∀j,j<k->((dJ L j).name==key)=false))
 case atStart=>exact⟨0,by omega,by omega,rfl,ai.refl _ _,af (fun j hj=>by omega)⟩
 case round=>
  obtain⟨k,hk1,rfl,rfl,hO,hN⟩:=hrel;by_cases hlt:k<L.length
  ·have hi:=(h.out.nil' hO).item hlt
   have hlast: ∀b,((dJ L k).name==key)=b->if b then r=k else(∀j,j<k+1->((dJ L j).name==key)=false):=by
    intro b hb;cases b
    ·simp only[Bool.false_eq_true,if_false]
     intro j hj;by_cases e:j=k
     ·rw[e];exact hb
     ·exact hN.out j (by omega)
    ·simp only[if_true]
     rw[<-hr.out];unfold fI;rw[Fs hlt hN.out hb]
   generalize dJ L k=x at hi hlast;obtain⟨b,o,rfl,hb,hwf,hc⟩:=hi;obtain⟨nm,hs,al,ty,nu,vk,vn,vs⟩:=x;have E:=Fv kb key nm hs al ty nu vk vn vs wr ((hO.cell (p:=⟨kb,0,none⟩) hkb (by simp)).trans hk);have c0:=hc 0 _ rfl;have c1:=hc 1 _ rfl;have c2:=hc 2 _ rfl;have c3:=hc 3 _ rfl;have c4:=hc 4 _ rfl;have c5:=hc 5 _ rfl;have c6:=hc 6 _ rfl;have c7:=hc 7 _ rfl;simp only[Nat.add_zero]at c0;simp only at hlast;generalize(nm==key)=bb at E hlast;have hlast:=af (hlast bb rfl);replace E:=af E;clear hc hwf hb;go_wp2_with fail
   refine E.out.mono ?_;rintro e w2 ⟨rfl,hO2⟩;clear c0 c1 c2 c3 c4 c5 c6 c7;cases bb
   ·go_wp2_with fail
    go_roundg(L.length-(k+1))
    case measure=>omega
    case rel=>exact⟨k+1,by omega,rfl,by go_num,hO.trans hO2,af (by simpa using hlast.out)⟩
   ·go_wp2_with fail
    go_ret
    exact⟨by rw[show r=(k:Int)by simpa using hlast.out];rfl,hO.trans hO2⟩
  ·have hrn:r= -1:=by
    rw[<-hr.out];unfold fI;rw[Fu (fun j hj=>hN.out j (by omega))]
   change Hid _ at hrn;have hge:L.length<=k:=by omega
   go_wp2_with fail
   go_ret
   exact⟨by rw[hrn.out];rfl,hO⟩
theorem zB(a:Option Addr)(L:List bD)(cap lb:Nat)(key:ByteArray)(w:World)(h:aY w a L)(hk:w.cell? ⟨lb,0,none⟩=some (.slice a L.length cap)):
  Calls Tryz.prog 323 #[.string key,.slice (some ⟨lb,0,none⟩) 1 1] w fun e w'=>e=.returned (.int .i64 (fI L key))/\ai [] w w':=by
 have hlb:=block_lt_of_cell hk;have hl:=h.1;have hp:=rW L key;have I:=JY a L cap w.heap.size key (w.alloc (.cells #[.string key] 9)) (h.nil' ((ai.refl [] _).alloc _)) (by simp);have hk':(w.alloc (.cells #[.string key] 9)).cell? ⟨lb,0,none⟩=some (.slice a L.length cap):=(((ai.refl [] w).alloc _).cell (p:=⟨lb,0,none⟩) hlb (by simp)).trans hk;generalize fI L key=r at I hp;replace I:=af I;clear h;obtain⟨hp1,hp2⟩:=hp;go_enter Tryz.func323,Tryz.ntmps323
 go_wp2_with fail
 refine wp_loop_rounds 2 ?_;rw[rounds_succ];go_wp2_with fail
 refine I.out.mono ?_;rintro e w2 ⟨rfl,hO2⟩;have hO3:=((ai.refl [] w).alloc (.cells #[.string key] 9)).trans hO2;by_cases hr:0<=r
 ·go_wp2_with fail
  go_ret
  exact⟨rfl,hO3⟩
 ·have hr1:Hid (r= -1):=af (by omega)
  go_wp2_with fail
  rw[rounds_succ];go_wp2_with fail
  go_ret
  exact⟨by rw[hr1.out];rfl,hO3⟩
def eB(v:Value):Prop:= ∀a n c,v=.slice a n c->n<=c
theorem aA.drop{α:Type}{enc:α->List Value}{k:Nat}{P:Program}{T t:TypeId}{bytes:Nat}{w:World}{v:Value}{l:List α}(h:aA enc w v l)(E:je P t T enc k bytes)(hcap:eB v){i:Nat}(hi:i<=l.length):
  ∃v1,(∀W,(Instr.sliceAt t v (some (.int .i64 i)) none none).run P W=.ok v1 W)/\aA enc w v1 (l.drop i)/\(∀b,v1.ownBlock=some b->v.ownBlock=some b)/\eB v1:=by
 obtain⟨inf,z,BF,_,hsz,_,_⟩:=E.info;have hs: ∀W,(sizeOf T).run P W=.ok k W:=fun W=>by simp[sizeOf,typeInfo,BF,hsz]
 have hi0:(0:Int)<=i:=by omega
 rcases h with⟨rfl,rfl⟩|⟨g,o,cap,rfl,hR⟩
 ·obtain rfl:i=0:=by simpa using hi
  refine⟨.slice none 0 0,fun W=>?_,.inl ⟨rfl,by simp⟩,fun b hb=>hb,hcap⟩;simp[Instr.sliceAt,Instr.slice,run_underlying E.ut,Instr.sliceBounds,run_sliceBound,hs,Result.andThen]
 ·have h2:(i:Int)<=l.length:=by omega
  have hl:(aC enc (l.take i)).length=i*k:=by rw[aW E.len,List.length_take_of_le hi]
  have hget: ∀j u,(aC enc (l.drop i))[j]?=some u->w.cell? ⟨g,o+(i*k+j),none⟩=some u:=fun j u hu=>by
   refine hR (i*k+j) u ?_
   conv=>lhs;rw[<-List.take_append_drop i l,bO]
   rw[List.getElem?_append_right (by omega),hl,Nat.add_sub_cancel_left];exact hu
  have hlc:=hcap _ _ _ rfl;have hco:eB (.slice (some ⟨g,o,none⟩) (l.length-i) (cap-i)):=fun a n c e=>by cases e;omega
  have Wz:eB (.slice (some ⟨g,o+i*k,none⟩) (l.length-i) (cap-i)):=fun a n c e=>by cases e;omega
  by_cases hc:cap=i
  ·refine⟨.slice (some ⟨g,o,none⟩) (l.length-i) (cap-i),fun W=>?_,.inr ⟨g,o,cap-i,by rw[List.length_drop],fun j u hu=>?_⟩,fun b hb=>by simpa[Value.ownBlock]using hb,hco⟩
   ·simp[Instr.sliceAt,Instr.slice,run_underlying E.ut,Instr.sliceBounds,run_sliceBound,hs,Result.andThen,hi0,h2,hc]
   ·exfalso
    have hj:=(List.getElem?_eq_some_iff.1 hu).1;rw[aW E.len,List.length_drop,show l.length-i=0 by omega]at hj;omega
  ·refine⟨.slice (some ⟨g,o+i*k,none⟩) (l.length-i) (cap-i),fun W=>?_,.inr ⟨g,o+i*k,cap-i,by rw[List.length_drop],fun j u hu=>?_⟩,fun b hb=>by simpa[Value.ownBlock]using hb,Wz⟩
   ·simp[Instr.sliceAt,Instr.slice,run_underlying E.ut,Instr.sliceBounds,run_sliceBound,hs,Result.andThen,hi0,h2,hc,Addr.add]
   ·rw[Nat.add_assoc];exact hget j u hu
def bL(x:Int):List Value:=[.int .u8 x]
theorem uN(x:Int):(bL x).length=1:=rfl
theorem Ye:(Tryz.prog.info? 5).map (fun i=>(i.zero,i.size,i.bytes))=some (some (.int .u8 0),1,1):=by kernel_rfl
theorem NZ:je Tryz.prog 23 5 bL 1 1 where
 ut:=Tryz.underlying23
 info:=by obtain⟨i,h1,h2,h3,h4⟩:=info_parts Ye;exact⟨i,_,h1,h2,h3,h4,rfl⟩
 pos:=by omega
 len:=fun _=>rfl
 one x u hu:=by simp only[bL,List.mem_cons,List.not_mem_nil,or_false]at hu;subst hu;rfl
theorem aA.mid{α:Type}{enc:α->List Value}{k:Nat}{P:Program}{T t:TypeId}{bytes:Nat}{w:World}{v:Value}{l:List α}(h:aA enc w v l)(E:je P t T enc k bytes)(hcap:eB v){i j:Nat}(hij:i<=j)(hj:j<=l.length):
  ∃v1,(∀W,(Instr.sliceAt t v (some (.int .i64 i)) (some (.int .i64 j)) none).run P W=.ok v1 W)/\aA enc w v1 ((l.drop i).take (j-i))/\(∀b,v1.ownBlock=some b->v.ownBlock=some b)/\eB v1:=by
 obtain⟨inf,z,BF,_,hsz,_,_⟩:=E.info;have hs: ∀W,(sizeOf T).run P W=.ok k W:=fun W=>by simp[sizeOf,typeInfo,BF,hsz]
 have hi0:(0:Int)<=i:=by omega
 have hij':(i:Int)<=j:=by omega
 rcases h with⟨rfl,rfl⟩|⟨g,o,cap,rfl,hR⟩
 ·obtain rfl:j=0:=by simpa using hj
  obtain rfl:i=0:=by omega
  refine⟨.slice none 0 0,fun W=>?_,.inl ⟨rfl,by simp⟩,fun b hb=>hb,hcap⟩;simp[Instr.sliceAt,Instr.slice,run_underlying E.ut,Instr.sliceBounds,run_sliceBound,hs,Result.andThen]
 ·have hlc:=hcap _ _ _ rfl
  have hjc:(j:Int)<=cap:=by omega
  have hic:(i:Int)<=cap:=by omega
  have hlen:((l.drop i).take (j-i)).length=j-i:=by rw[List.length_take,List.length_drop];omega
  have hl:(aC enc (l.take i)).length=i*k:=by rw[aW E.len,List.length_take_of_le (by omega)]
  have hget: ∀m u,(aC enc ((l.drop i).take (j-i)))[m]?=some u->w.cell? ⟨g,o+(i*k+m),none⟩=some u:=fun m u hu=>by
   refine hR (i*k+m) u ?_;have h1:l=l.take i++((l.drop i).take (j-i)++(l.drop i).drop (j-i)):=by rw[List.take_append_drop,List.take_append_drop]
   conv=>lhs;rw[h1,bO,bO]
   rw[List.getElem?_append_right (by omega),hl,Nat.add_sub_cancel_left];rw[List.getElem?_append_left (List.getElem?_eq_some_iff.1 hu).1];exact hu
  have hco:eB (.slice (some ⟨g,o,none⟩) (j-i) (cap-i)):=fun a n c e=>by cases e;omega
  have Wz:eB (.slice (some ⟨g,o+i*k,none⟩) (j-i) (cap-i)):=fun a n c e=>by cases e;omega
  have hsub:((j:Int)-i).toNat=j-i:=by omega
  by_cases hc:cap=i
  ·refine⟨.slice (some ⟨g,o,none⟩) (j-i) (cap-i),fun W=>?_,.inr ⟨g,o,cap-i,by rw[hlen],fun m u hu=>?_⟩,fun b hb=>by simpa[Value.ownBlock]using hb,hco⟩
   ·have:j=i:=by omega
    subst this;simp[Instr.sliceAt,Instr.slice,run_underlying E.ut,Instr.sliceBounds,run_sliceBound,hs,Result.andThen,hi0,hij',hjc,hic,hc]
   ·exfalso
    have hj:=(List.getElem?_eq_some_iff.1 hu).1;rw[aW E.len,hlen,show j-i=0 by omega]at hj;omega
  ·refine⟨.slice (some ⟨g,o+i*k,none⟩) (j-i) (cap-i),fun W=>?_,.inr ⟨g,o+i*k,cap-i,by rw[hlen],fun m u hu=>?_⟩,fun b hb=>by simpa[Value.ownBlock]using hb,Wz⟩
   ·simp[Instr.sliceAt,Instr.slice,run_underlying E.ut,Instr.sliceBounds,run_sliceBound,hs,Result.andThen,hi0,hij',hjc,hic,hc,Addr.add]
   ·rw[Nat.add_assoc];exact hget m u hu
def kL(n:Nat)(at' wd:Int):Int:=if at'<0\/(n:Int)<at' then 1 else if(n:Int)-at'<wd then 2 else 0
theorem IL(v:Value)(B:List Int)(at' wd:Int)(w:World)(h:aA bL w v B)(hl:B.length<=140737488351232)(ha:at'<=140737488351232)(hb:kL B.length at' wd≠0):
  Calls Tryz.prog 343 #[v,.int .i64 at',.int .i64 wd] w fun e w'=>e=.returned (.tuple #[.slice none 0 0,.int .i64 (kL B.length at' wd)])/\w=w':=by
 obtain⟨a,c,rfl⟩:=h.form;clear h;unfold kL at hb⊢;generalize B.length=n at*;by_cases h1:at'<0
 ·rw[if_pos (.inl h1)]
  go_enter Tryz.func343,Tryz.ntmps343
  go_wp2_with fail
  go_ret2
  exact⟨rfl,rfl⟩
 ·by_cases h2:(n:Int)<at'
  ·rw[if_pos (.inr h2)]
   go_enter Tryz.func343,Tryz.ntmps343
   go_wp2_with fail
   go_ret2
   exact⟨rfl,rfl⟩
  ·have h12: ¬(at'<0\/(n:Int)<at'):=fun h=>h.elim h1 h2
   rw[if_neg h12]at hb⊢;have h3:(n:Int)-at'<wd:=by
    by_cases h3:(n:Int)-at'<wd
    ·exact h3
    ·rw[if_neg h3]at hb;exact absurd rfl hb
   rw[if_pos h3];have hw:IntKind.wrap .i64 ((n:Int)-at')=(n:Int)-at':=by rw[IntKind.wrap_i64];omega
   have h2':at'<=(n:Int):=by omega
   clear hb h12 h2;go_enter Tryz.func343,Tryz.ntmps343
   go_wp2_with fail
   go_ret2
   exact⟨rfl,rfl⟩
theorem N7(v:Value)(B:List Int)(i wd:Nat)(w:World)(h:aA bL w v B)(hc:eB v)(hl:B.length<=140737488351232)(hi:i+wd<=B.length):
  Calls Tryz.prog 343 #[v,.int .i64 i,.int .i64 wd] w fun e w'=>(∃v1,e=.returned (.tuple #[v1,.int .i64 0])/\aA bL w v1 ((B.drop i).take wd)/\eB v1)/\w=w':=by
 obtain⟨v1,hs,hR,_,hc1⟩:=h.mid NZ hc (i:=i) (j:=i+wd) (by omega) hi;rw[Nat.add_sub_cancel_left]at hR;obtain⟨a,c,rfl⟩:=h.form;have hs':(Instr.sliceAt 23 (.slice a B.length c) (some (.int .i64 i)) (some (.int .i64 ((i:Int)+wd))) none).run Tryz.prog w=.ok v1 w:=by
  have:=hs w;rwa[show((i+wd:Nat):Int)=(i:Int)+wd by omega]at this
 clear hs h hc;change Hid _ at hR hc1;generalize B.length=n at*;have hw:IntKind.wrap .i64 ((n:Int)-i)=(n:Int)-i:=by rw[IntKind.wrap_i64];omega
 have hw2:IntKind.wrap .i64 ((i:Int)+wd)=(i:Int)+wd:=by rw[IntKind.wrap_i64];omega
 have h0: ¬((i:Int)<0):=by omega
 have h1:(i:Int)<=n:=by omega
 have h2:(wd:Int)<=(n:Int)-i:=by omega
 go_enter Tryz.func343,Tryz.ntmps343
 go_wp2_with fail
 go_ret2
 exact⟨⟨v1,rfl,hR.out,hc1.out⟩,rfl⟩
end Go.Proofs.YtedcakchekaemaaGreatDoor
