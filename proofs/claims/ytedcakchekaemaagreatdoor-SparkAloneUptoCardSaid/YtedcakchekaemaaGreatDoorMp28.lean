/- Contracts of the program, part 28. -/
import Derived.Test.YtedcakchekaemaaGreatDoorMp24
import Derived.Test.YtedcakchekaemaaGreatDoorMp27
import Derived.Test.YtedcakchekaemaaGreatDoorMp26
set_option maxRecDepth 100000
set_option maxHeartbeats 16000000
set_option linter.all false
namespace Go.Proofs.YtedcakchekaemaaGreatDoor
open Go.RowKit
def uw(l:iH)(gap:Int)(key:ByteArray)(now:Int):iH:=if pK l gap key now then(key,now)::fU l key else l
def Ce(w:World)(rb:Nat)(gap:Int)(B:List Nat)(l:iH)(key:ByteArray)(now:Int)(e:Ending)(w':World):Prop:=
 e=.returned (.bool (pK l gap key now))/\ ∃B',oz w' rb gap B' (uw l gap key now)/\ai B w w'/\ ∀x∈B',x∈B\/w.heap.size<=x
theorem uy{l:iH}(h:(l.map (·.1)).Nodup)(key:ByteArray):((fU l key).map (·.1)).Nodup/\key∉(fU l key).map (·.1):=by
 refine⟨((List.filter_sublist (l:=l)).map _).nodup h,?_⟩;intro hm;obtain⟨p,hp,rfl⟩:=List.mem_map.1 hm;have:=(List.mem_filter.1 hp).2;simp at this
theorem Ec{l:iH}{key:ByteArray}{t:Int}(h:aQ l key=some t):(fU l key).length<l.length:=by
 have hm:=DZ h;unfold fU;rcases Nat.lt_or_ge (l.filter fun p=> !(p.1==key)).length l.length with h1|h1
 ·exact h1
 ·have h2:=List.length_filter_le (fun p:ByteArray×Int=> !(p.1==key)) l
  have h3:=List.length_filter_eq_length_iff.1 (by omega:(l.filter fun p=> !(p.1==key)).length=l.length);have:=h3 _ hm;simp at this
theorem AV{l:iH}{key:ByteArray}(h:aQ l key=none):fU l key=l:=by
 unfold fU;rw[List.filter_eq_self];intro p hp;have:=(dW l key).1 h p hp;simpa using this
theorem P7{ms:List Mk}{key:ByteArray}{i:Nat}(h:ou ms key=some i)(hn:((kv ms).map (·.1)).Nodup):kv (ms.eraseIdx i)=fU (kv ms) key:=by
 have h1:(kv ms).findIdx? (fun p=>p.1==key)=some i:=by
  unfold kv;rw[List.findIdx?_map];exact h
 unfold fU;rw[<-ja (fun p:ByteArray×Int=>p.1==key) (kv ms) i ?_ h1]
 ·unfold kv;rw[ChangeMaps.map_eraseIdx]
 ·rw[List.Nodup,List.pairwise_map]at hn
  exact hn.imp fun hne ⟨q1,q2⟩=>hne ((LawfulBEq.eq_of_beq q1).trans (LawfulBEq.eq_of_beq q2).symm)
theorem Kl(rb:Nat)(gap:Int)(B:List Nat)(l:iH)(key:ByteArray)(now:Int)(w:World)(h:oz w rb gap B l):
  Calls Tryz.prog 100 #[.pointer (some ⟨rb,0,none⟩),.string key,.int .i64 now] w (Ce w rb gap B l key now):=by
 have M:=af (P6 rb gap B l key now w h);obtain⟨v,ms,hR,hp,Uv,hvB,hxB⟩:=h.at_;have hlen:ms.length<=8:=by have:=hp.length_eq;have:=h.len;simp[kv]at*;omega
 unfold Ce uw;cases hm:pK l gap key now with
 |false=>
  rw[hm]at M;have hN:=af (fun w2 (ho:ai [] w w2)=>h.nil ho);clear hR hp hm h;go_enter Tryz.func100,Tryz.ntmps100
  go_wp2_with fail
  refine M.out.mono ?_;rintro e w2 ⟨rfl,hO2⟩;go_wp2_with fail
  go_ret
  exact⟨rfl,B,hN.out _ hO2,hO2.nil,fun x hx=>.inl hx⟩
 |true=>
  rw[hm]at M;simp only[if_true];have tF:0<=now/\now<=1073741824:=by
   unfold pK at hm;have:=(Bool.and_eq_true_iff.1 hm).1;simpa[ru]using this
  have hkn:=Eb hp h.nd;have hg:aQ l key=aQ (kv ms) key:=(sG hp hkn key).symm;have hlk:(kv ms).length=l.length:=hp.length_eq;have XR:=uy h.nd key;have hpush: ∀w2 v2 Ab,bT w2 rb gap v2 Ab->(kv Ab).Perm (fU l key)->(fU l key).length<8->(v2.ownBlock=v.ownBlock)->(∀x∈Ab,x∈ms)->ai B w w2->
    Calls Tryz.prog 176 #[.iface 286 (.pointer (some ⟨rb,1,none⟩)),.iface 291 (.pointer (some ⟨w2.heap.size,0,none⟩))] (w2.alloc (.cells #[.string key,.int .i64 now] 293)) fun e w3=>
     e=.returned (.tuple #[])/\ ∃B',oz w3 rb gap B' ((key,now)::fU l key)/\ai B w w3/\ ∀x∈B',x∈B\/w.heap.size<=x:=by
   intro w2 v2 Ab hR2 hp2 hl2 hv2 hsub hO2;have hA:=(ai.refl [] w2).alloc (.cells #[.string key,.int .i64 now] 293);have fB:=hR2.nil hA;have hrl:=aj hR2.row;have ahY:Ab.length<8:=by have:=hp2.length_eq;simp[kv]at this;omega
   have hvl: ∀g,v2.ownBlock=some g->g<w2.heap.size:=by
    intro g hgv;obtain⟨_,⟨q1,_⟩|⟨g',cap',cur',q3,_,q5,_⟩⟩:=hR2.marks.own
    ·rw[q1]at hgv;simp[Value.ownBlock]at hgv
    ·rw[q3]at hgv;simp[Value.ownBlock]at hgv;subst hgv;exact aj q5
   refine(LQ rb gap v2 Ab ⟨w2.heap.size,key,now⟩ _ fB (by omega) (heap_alloc_new _ _) tF (by simp;omega) (fun e=>absurd (hvl _ e) (Nat.lt_irrefl _))).mono ?_;rintro e w3 ⟨v3,Uu,rfl,qA,hp3,hv3,hO3⟩;have hsz:=hO2.size;refine⟨rfl,w2.heap.size::rb::(v3.ownBlock.toList++Ab.map (·.blk)),⟨by simp;omega,?_,h.gp,v3,Uu,qA,?_,by simp,fun g hg=>by simp[hg],fun x hx=>?_⟩,?_,?_⟩
   ·simp only[List.map_cons,List.nodup_cons]
    exact⟨XR.2,XR.1⟩
   ·have h1:(kv Uu).Perm (kv (Ab++[⟨w2.heap.size,key,now⟩])):=hp3.map _
    refine h1.trans ?_;simp only[kv,List.map_append,List.map_cons,List.map_nil];exact(List.perm_append_singleton _ _).trans (hp2.cons _)
   ·rcases List.mem_append.1 (hp3.mem_iff.1 hx)with h1|h1
    ·simp only[List.mem_cons,List.mem_append,List.mem_map];exact .inr (.inr (.inr ⟨x,h1,rfl⟩))
    ·rw[List.mem_singleton.1 h1];simp
   ·refine((hO2.trans hA.nil)).trans' hO3 ?_
    intro x hx;rcases List.mem_cons.1 hx with rfl|hx
    ·exact .inl Uv
    ·simp only[Option.mem_toList]at hx
     exact .inl (hvB x (by rw[<-hv2];exact hx))
   ·intro x hx
    simp only[List.mem_cons,List.mem_append,List.mem_map,Option.mem_toList]at hx;rcases hx with rfl|rfl|hx|⟨y,hy,rfl⟩
    ·exact .inr hsz
    ·exact .inl Uv
    ·rcases hv3 with h1|⟨g',h1,h2⟩
     ·exact .inl (hvB x (by rw[<-hv2,<-h1];exact hx))
     ·rw[h1]at hx
      obtain rfl:g'=x:=by simpa using hx
      simp at h2;exact .inr (by omega)
    ·exact .inl (hxB y (hsub y hy))
  have F: ∀w2,ai [] w w2->_:=fun w2 ho=>AU rb gap v ms key w2 (hR.nil ho) (by omega)
  unfold G8 at F;cases hf:ou ms key with
  |none=>
   rw[hf]at F;have hgn:aQ l key=none:=by rw[hg,Cc,hf];rfl
   have hl8:l.length<8:=by
    unfold pK at hm;rw[hgn]at hm;simpa using(Bool.and_eq_true_iff.1 hm).2
   have P:=fun w2 (ho:ai [] w w2)=>hpush w2 v ms (hR.nil ho) (by rw[AV hgn];exact hp) (by rw[AV hgn];exact hl8) rfl (fun x hx=>hx) ho.nil
   change Hid _ at P F;clear hpush hR hp hf hg hm h hkn hlk XR hgn Uv hvB hxB;go_enter Tryz.func100,Tryz.ntmps100
   go_wp2_with fail
   refine M.out.mono ?_;rintro e w2 ⟨rfl,hO2⟩;go_wp2_with fail
   refine(F.out w2 hO2).mono ?_;rintro e w3 ⟨rfl,hO3⟩;go_wp2_with fail
   refine(P.out w3 (hO2.trans hO3)).mono ?_;rintro e w4 ⟨rfl,hB⟩;go_wp2_with fail
   go_ret
   exact⟨rfl,hB⟩
  |some i=>
   rw[hf]at F;have hi:=(yV hf).1;have hgs:aQ l key=some (ms.getD i Mk.dflt).at_:=by rw[hg,Cc,hf];rfl
   have hdl:=Ec hgs;have hl8:=h.len;have hke:=P7 hf hkn;have R:=fun w2 (ho:ai [] w w2)=>G7 rb gap v ms i w2 (hR.nil ho) hi (by omega)
   have P: ∀w2 w3 v3 Uu,ai [] w w2->bT w3 rb gap v3 Uu->Uu.Perm (ms.eraseIdx i)->v3.ownBlock=v.ownBlock->ai (rb::v.ownBlock.toList) w2 w3->_:=
    fun w2 w3 v3 Uu ho h3 hp3 hv3 ho3=>hpush w3 v3 Uu h3 (((hp3.map _).trans (by
     show(kv (ms.eraseIdx i)).Perm _;rw[hke];exact hp.filter _))) (by omega) hv3 (fun x hx=>List.mem_of_mem_eraseIdx (hp3.mem_iff.1 hx)) ((ho.nil (S:=B)).trans' ho3 (by
      intro x hx;rcases List.mem_cons.1 hx with rfl|hx
      ·exact .inl Uv
      ·exact .inl (hvB x (by simpa using hx))))
   have hib:(0:Int)<=i:=by omega
   change Hid _ at P F R;clear hpush hR hp hf hg hm h hkn hlk XR hgs Uv hvB hxB hke hdl;go_enter Tryz.func100,Tryz.ntmps100
   go_wp2_with fail
   refine M.out.mono ?_;rintro e w2 ⟨rfl,hO2⟩;go_wp2_with fail
   refine(F.out w2 hO2).mono ?_;rintro e w3 ⟨rfl,hO3⟩;go_wp2_with fail
   refine(R.out w3 (hO2.trans hO3)).mono ?_;rintro e w4 ⟨v4,ms4,x4,rfl,qA,Ar,hv4,hO4⟩;go_wp2_with fail
   refine(P.out w3 w4 v4 ms4 (hO2.trans hO3) qA Ar hv4 hO4).mono ?_;rintro e w5 ⟨rfl,hB⟩;go_wp2_with fail
   go_ret
   exact⟨rfl,hB⟩
theorem LF(a:Option Addr)(c:Nat)(fv:Value)(W:World):Calls Tryz.prog 104 #[.slice a 0 c,.int .i64 0,.int .i64 0,fv] W fun e w'=>e=.returned (.tuple #[])/\W=w':=by
 go_enter Tryz.func104,Tryz.ntmps104
 go_wp2_with fail
 refine wp_loop_rounds 1 ?_;rw[rounds_succ];go_wp2_with fail
 go_end0
 exact⟨rfl,rfl⟩
theorem LG(a:Option Addr)(c:Nat)(fv:Value)(n:Int)(W:World):Calls Tryz.prog 63 #[.slice a 0 c,.int .i64 0,.int .i64 0,.int .i64 n,fv] W fun e w'=>e=.returned (.tuple #[])/\W=w':=by
 have H:=af (fun W=>LF a c fv W);go_enter Tryz.func63,Tryz.ntmps63
 go_wp2_with fail
 refine wp_loop_rounds 1 ?_;rw[rounds_succ];go_wp2_with(go_at_call 104;refine(H.out _).mono ?_;rintro e w' ⟨rfl,rfl⟩)
 (try simp only[Exit.inBlock,Exit.then]);refine bodyPost_ret (results_none rfl _ _ _) rfl ?_
 exact⟨rfl,rfl⟩
theorem GX(a:Option Addr)(c:Nat)(fv:Value)(W:World):Calls Tryz.prog 26 #[.slice a 0 c,fv] W fun e w'=>e=.returned (.tuple #[])/\W=w':=by
 have H:=af (fun n W=>LG a c fv n W);go_enter Tryz.func26,Tryz.ntmps26
 go_wp2_with(first|(go_at_call 63;refine(H.out _ _).mono ?_;rintro e w' ⟨rfl,rfl⟩)|go_in)
 go_end0
 exact⟨rfl,rfl⟩
theorem oq(p m:Nat)(W:World)(h:W.cell? ⟨p,0,none⟩=some (.map (some m))):Calls Tryz.prog 22 #[aN p] W fun e w'=>e=.returned (.bool false)/\W=w':=by
 have hq:=fun w r=>run_eql_map_nil (P:=Tryz.prog) w 67 87 78 r Tryz.underlying67
 go_enter Tryz.func22,Tryz.ntmps22
 go_wp2_with fail
 go_ret
 exact⟨rfl,rfl⟩
theorem SN.c0{w:World}{p m h hm bb r:Nat}(H:SN w p m h hm bb r):w.cell? ⟨p,0,none⟩=some (.map (some m))/\w.cell? ⟨p,1,none⟩=some (aN h)/\w.cell? ⟨p,2,none⟩=some (aN bb)/\w.cell? ⟨p,3,none⟩=some (aN r)/\w.cell? ⟨p,4,none⟩=some (.int .i64 0):=
 ⟨by rw[cell_of_row _ _ _ _ _ _ H.sp];rfl,by rw[cell_of_row _ _ _ _ _ _ H.sp];rfl,by rw[cell_of_row _ _ _ _ _ _ H.sp];rfl,by rw[cell_of_row _ _ _ _ _ _ H.sp];rfl,by rw[cell_of_row _ _ _ _ _ _ H.sp];rfl⟩
theorem bK{w:World}{b:Nat}{x0 x1 x2 x3 x4 x5 x6 x7 x8 x9 x10 qQ XP XQ:Value}{T:TypeId}(h:w.heap[b]?=some (.cells #[x0,x1,x2,x3,x4,x5,x6,x7,x8,x9,x10,qQ,XP,XQ] T (0,0))):
  w.cell? ⟨b,0,none⟩=some x0/\w.cell? ⟨b,1,none⟩=some x1/\w.cell? ⟨b,2,none⟩=some x2/\w.cell? ⟨b,3,none⟩=some x3/\w.cell? ⟨b,4,none⟩=some x4/\w.cell? ⟨b,5,none⟩=some x5/\w.cell? ⟨b,6,none⟩=some x6/\w.cell? ⟨b,7,none⟩=some x7/\w.cell? ⟨b,8,none⟩=some x8/\w.cell? ⟨b,9,none⟩=some x9/\w.cell? ⟨b,10,none⟩=some x10/\w.cell? ⟨b,11,none⟩=some qQ/\w.cell? ⟨b,12,none⟩=some XP/\w.cell? ⟨b,13,none⟩=some XQ:=
 ⟨by rw[cell_of_row _ _ _ _ _ _ h];rfl,by rw[cell_of_row _ _ _ _ _ _ h];rfl,by rw[cell_of_row _ _ _ _ _ _ h];rfl,by rw[cell_of_row _ _ _ _ _ _ h];rfl,by rw[cell_of_row _ _ _ _ _ _ h];rfl,by rw[cell_of_row _ _ _ _ _ _ h];rfl,by rw[cell_of_row _ _ _ _ _ _ h];rfl,by rw[cell_of_row _ _ _ _ _ _ h];rfl,by rw[cell_of_row _ _ _ _ _ _ h];rfl,by rw[cell_of_row _ _ _ _ _ _ h];rfl,by rw[cell_of_row _ _ _ _ _ _ h];rfl,by rw[cell_of_row _ _ _ _ _ _ h];rfl,by rw[cell_of_row _ _ _ _ _ _ h];rfl,by rw[cell_of_row _ _ _ _ _ _ h];rfl⟩
structure uR where
 at':Int
 topic:ByteArray
 text:ByteArray
 qos:Int
 ret:Bool
 s:jv
 node:Value
 code:Int
 vg:ByteArray
 vn:ByteArray
 ask:Bool
def aV(w:World)(b:Nat)(x:uR):Prop:=
 w.heap[b]?=some (.cells #[.int .i64 x.at',.string x.topic,.string x.text,.int .i64 x.qos,.bool x.ret,.int .i64 x.s.k,.string x.s.g,.string x.s.n,.string x.s.d,x.node,.int .i64 x.code,.string x.vg,.string x.vn,.bool x.ask] 80 (0,0))
theorem aV.own{S:List Nat}{w w':World}{b:Nat}{x:uR}(h:aV w b x)(ho:ai S w w')(hb:b∉S):aV w' b x:=ho.heap h hb
def sH(k:Int):Bool:= !(k==0||k==4||k==8)
theorem D6(p b:Nat)(x:uR)(w:World)(h:aV w b x):Calls Tryz.prog 53 #[aN p,aN b] w fun e w'=>e=.returned (.bool (sH x.s.k))/\w=w':=by
 obtain⟨c0,c1,c2,c3,c4,c5,c6,c7,c8,c9,c10,c11,c12,c13⟩:=bK h;clear h;generalize x.s.k=k at*;by_cases k0:k=0
 ·subst k0
  go_enter Tryz.func53,Tryz.ntmps53
  go_wp2_with fail
  go_ret
  exact⟨rfl,rfl⟩
 ·by_cases k4:k=4
  ·subst k4
   go_enter Tryz.func53,Tryz.ntmps53
   go_wp2_with fail
   go_ret
   exact⟨rfl,rfl⟩
  ·by_cases k8:k=8
   ·subst k8
    go_enter Tryz.func53,Tryz.ntmps53
    go_wp2_with fail
    go_ret
    exact⟨rfl,rfl⟩
   ·have q0:(k==0)=false:=by simpa using k0
    have q4:(k==4)=false:=by simpa using k4
    have q8:(k==8)=false:=by simpa using k8
    have hT:sH k=true:=by unfold sH;rw[q0,q4,q8];rfl
    rw[hT];go_enter Tryz.func53,Tryz.ntmps53
    go_wp2_with fail
    go_ret
    exact⟨rfl,rfl⟩
theorem yR(p b:Nat)(x:uR)(w:World)(h:aV w b x)(h9:x.s.k≠9):Calls Tryz.prog 54 #[aN p,aN b] w fun e w'=>e=.returned (.bool true)/\ai [b] w w'/\aV w' b {x with vn:=x.s.n}:=by
 obtain⟨c0,c1,c2,c3,c4,c5,c6,c7,c8,c9,c10,c11,c12,c13⟩:=bK h;have z12:=frozen_of_row _ b 12 _ _ h;have hO:ai [b] w (w.setCell ⟨b,12,none⟩ (.string x.s.n)):=(ai.refl [b] w).setCell (.inl (by simp)) _;have hr:aV (w.setCell ⟨b,12,none⟩ (.string x.s.n)) b {x with vn:=x.s.n}:=by
  have:=heap_setCell_same _ b 12 _ _ (.string x.s.n) h;simpa[aV]using this
 have q9:(x.s.k==9)=false:=by simpa using h9
 have k9:(w.setCell ⟨b,12,none⟩ (.string x.s.n)).cell? ⟨b,5,none⟩=some (.int .i64 x.s.k):=(bK hr).2.2.2.2.2.1;go_enter Tryz.func54,Tryz.ntmps54
 go_wp2_with fail
 go_ret
 exact⟨rfl,hO,hr⟩
theorem vB(p b:Nat)(x:uR)(w:World)(h:aV w b x)(h1:x.code≠1):Calls Tryz.prog 57 #[aN p,aN b] w fun e w'=>e=.returned (.bool true)/\w=w':=by
 obtain⟨c0,c1,c2,c3,c4,c5,c6,c7,c8,c9,c10,c11,c12,c13⟩:=bK h;have q1:(x.code==1)=false:=by simpa using h1
 go_enter Tryz.func57,Tryz.ntmps57
 go_wp2_with fail
 go_ret
 exact⟨rfl,rfl⟩
theorem tK{P:Program}{kt:TypeId}{κ:Type}[BEq κ]{enc:κ->Value}(heq: ∀(w:World) a b,(Op.equal kt (enc a) (enc b)).run P w=.ok (a==b) w)(w:World)(k:κ):
  ∀(es:List MapEntry) (l:List (κ×Value)) (i:Nat),es.map (fun e=>(e.key,e.val))=l.map (fun p=>(enc p.1,p.2))->
   (Instr.findAsking kt (enc k) es i).run P w=.ok ((l.findIdx? (fun p=>k==p.1)).bind fun j=>(l[j]?).map fun p=>(i+j,p.2)) w
 | [],l,i,h=>by
   cases l with
   |nil=>simp[Instr.findAsking]
   |cons p r=>simp at h
 |e::es,l,i,h=>by
  cases l with
  |nil=>simp at h
  |cons p r=>
   simp only[List.map_cons,List.cons.injEq,Prod.mk.injEq]at h;obtain⟨⟨h1,h2⟩,h3⟩:=h;simp only[Instr.findAsking,h1,Sem.run_bind,heq,Result.andThen_ok];cases hkp:(k==p.1)
   ·have ih:=tK heq w k es r (i+1) h3
    simp only[List.findIdx?_cons,hkp];simp[ih];cases hf:r.findIdx? (fun p=>k==p.1)with
    |none=>simp
    |some j=>simp[Nat.add_assoc,Nat.add_comm 1 j]
   ·simp[List.findIdx?_cons,hkp,h2]
theorem Af{P:Program}{kt:TypeId}{κ:Type}[BEq κ]{enc:κ->Value}(hwide:(match P.underlying kt with|some (.array _ _)|some (.struct _)=>true|_=>false)=true)
  (heq: ∀(w:World) a b,(Op.equal kt (enc a) (enc b)).run P w=.ok (a==b) w)(w:World)(k:κ)(l:List (κ×Value))(es:List MapEntry)
  (h:es.map (fun e=>(e.key,e.val))=l.map (fun p=>(enc p.1,p.2))):(Instr.findKey kt (enc k) es).run P w=.ok ((l.findIdx? (fun p=>k==p.1)).bind fun j=>(l[j]?).map fun p=>(j,p.2)) w:=by
 have:=tK heq w k es l 0 h;simp only[Nat.zero_add]at this;rw[run_findKey_eq w hwide];exact this
end Go.Proofs.YtedcakchekaemaaGreatDoor
namespace Go.Proofs.YtedcakchekaemaaGreatDoor
open Go.RowKit
variable [Kd]
def lU(x:ByteArray×ByteArray):List Value:=[.string x.1,.string x.2]
theorem CQ:(Tryz.prog.info? 43).map (fun i=>(i.zero,i.size,i.bytes))=some (some (.agg #[.string ⟨#[]⟩,.string ⟨#[]⟩]),2,32):=by kernel_rfl
theorem vP:jG Tryz.prog 41 43 lU 2 32 where
 ut:=Tryz.underlying41
 info:=by obtain⟨i,h1,h2,h3,h4⟩:=info_parts CQ;exact⟨i,_,h1,h2,h3,h4,rfl⟩
 pos:=by omega
 len:=fun _=>rfl
 one x u hu:=by simp only[lU,List.mem_cons,List.not_mem_nil,or_false]at hu;rcases hu with rfl|rfl<;>rfl
def iV(x:Bi):ByteArray×ByteArray:=(fA x,x.t)
theorem Rl(t:ByteArray)(w:World):Calls Tryz.prog 67 #[.string t] w fun e w'=>e=.returned (.bool true)/\w=w':=by
 go_enter Tryz.func67,Tryz.ntmps67
 go_wp2_with fail
 go_ret
 exact⟨rfl,rfl⟩
structure ThJ (w wr:World) (L:List Bi) (k:Nat) (v:Value):Prop where
 own:ai [] w wr
 so:Sl 43 lU 2 w.heap.size wr v ((L.take k).map iV)
theorem MW(b:Nat)(v:Value)(L:List Bi)(w:World)(h:kL w b v L):
  Calls Tryz.prog 66 #[aN b,.func (.func 67) #[] #[]] w fun e w'=> ∃v',e=.returned v'/\Sl 43 lU 2 w.heap.size w' v' (L.map iV)/\ai [] w w':=by
 have cN:=zD b w h.cells.2.1;obtain⟨va,vc,rfl⟩:=h.l.sl;obtain⟨c0,c1,_⟩:=h.cells;have uO:=af (h.l.reads dJ);have Gp:=af h.few;have cP:=af Rl;have cT:=af Q8;replace cN:=af cN;clear h;go_enter Tryz.func66,Tryz.ntmps66
 go_wp2_with(go_at_call 114;((with_reducible refine cN.out.mono ?_);rintro e w2 ⟨rfl,rfl⟩))
 clear c0 c1 cN;go_loopg[5,16] L.length (fun gg s5 s16 wr=> ∃(k:Nat) (v:Value),k<=L.length/\gg=L.length-k/\s5=v/\s16=.int .i64 k/\Aside (ThJ w wr L k v))
 case atStart=>exact⟨0,_,by omega,by omega,rfl,rfl,ai.refl _ _,by simpa using Sl.nil _ _ _⟩
 case round=>
  obtain⟨k,v,hk,rfl,rfl,rfl,hJ⟩:=hrel;have k0:(0:Int)<=k:=by omega
  have hS:=hJ.so;have hnl:((L.take k).map iV).length=k:=by rw[List.length_map,List.length_take];omega
  by_cases hlt:k<L.length
  ·have k1:(k:Int)<L.length:=by omega
   have hwk:IntKind.i64.wrap ((k:Int)+1)=(k:Int)+1:=IntWalk.i64_in _ (by have:=Gp.out;omega);obtain⟨b1,o1,rfl,x0,x1,x2⟩:=(uO.out.nil' hJ.own).biAt hlt;have hnx:(L.take (k+1)).map iV=(L.take k).map iV++[iV L[k]]:=by rw[List.take_succ_eq_append_getElem hlt,List.map_append];rfl
   generalize L[k]=y at*;have hA:=(ai.refl [] wr).alloc (.cells (bR y).toArray 227);have hby:=heap_alloc_new wr (.cells (bR y).toArray 227);have cTy:=cT.out y (wr.alloc (.cells (bR y).toArray 227));obtain⟨y0,y1,y2⟩:=y;unfold Q7 at cTy;rw[show iV ⟨y0,y1,y2⟩=(fA ⟨y0,y1,y2⟩,y2)from rfl]at hnx;generalize fA ⟨y0,y1,y2⟩=tp at*;unfold bR at*;simp only at x0 x1 x2 cTy hA hby hnx;have d0:=cell_of_row _ _ 0 _ _ _ hby;have d1:=cell_of_row _ _ 1 _ _ _ hby;have d2:=cell_of_row _ _ 2 _ _ _ hby;obtain⟨sa,sc,rfl⟩:=hS.sl;generalize((L.take k).map iV)=LT at*;have hl1:=af (show(LT.length+1)*32<=140737488355328 by have:=Gp.out;omega);have hl2:=af (show LT.length+1<=maxLen by have:=Gp.out;unfold maxLen;omega);replace cTy:=af cTy;replace hS:=af hS;replace hA:=af (hJ.own.trans hA);have hAr:=af ((ai.refl [] wr).alloc (.cells #[.string y0,.string y1,.string y2] 227));have wz:=af hJ.own.size;change Hid _ at hnx;clear hJ hby hnl;go_wp2_with fail
   refine cTy.out.mono ?_;rintro e w3 ⟨rfl,hO3⟩;have sZ:=(ai.refl [] w3).alloc (.cells #[.string tp,.string y2] 43);have hb4:=heap_alloc_new w3 (.cells #[.string tp,.string y2] 43);have hO4:=af ((hA.out.trans hO3).trans sZ);have JS:=af (((hS.out.nil' hAr.out).nil' hO3).nil' sZ);obtain⟨⟨e0,e1⟩,_⟩:=II hb4;clear cTy hO3 sZ d0 d1 d2 x0 x1 x2 hS;go_upto_region 8 with(fail)
   generalize(w3.alloc (.cells #[.string tp,.string y2] 43))=w4 at*;generalize w3.heap.size=yb at*;go_wp2_with fail
   refine(cP.out tp w4).mono ?_;rintro e w5 ⟨rfl,rfl⟩;have mR:=af (aG.new (enc:=lU) (T:=43) w4 (tp,y2) 1);have hS5:=af (JS.out.nil' ((ai.refl [] w4).alloc (.cells #[.string tp,.string y2] 43)));have aF:=af (hO4.out.trans ((ai.refl [] w4).alloc (.cells #[.string tp,.string y2] 43)));simp only[lU]at mR;clear hb4 JS;go_wp2_with(at_builtin;refine aT rfl (.tmp 26) (.tmp 28) rfl vP (jV _) rfl hS5.out.bare rfl mR.out (by have hq:=hl1.out;simp only[List.length_singleton];exact hq) (by have hq:=hl2.out;simp only[List.length_singleton];exact hq) ?_;intro va9 w9 yB _ _ hg9 hX9;obtain⟨aa,ca9,rfl⟩:=yB.sl;have afN:=af (yB.up (base:=w.heap.size) (fun g hg=>by rcases hg9 g hg with h4|h4;exact(hS5.out.block h4).1;exact Nat.le_trans aF.out.size h4));have mU:=af (aF.out.trans' hX9 (fun x hx=>.inr (hS5.out.block (Option.mem_toList.1 hx)).1));clear yB hg9 hX9)
   go_roundg(L.length-(k+1))
   case measure=>omega
   case rel=>exact⟨k+1,_,by omega,rfl,rfl,by simp,mU.out,by have hh:=afN.out;rw[List.length_append]at hh;rw[hnx.out];exact hh⟩
  ·have k1: ¬(k:Int)<L.length:=by omega
   rw[List.take_of_length_le (by omega)]at hS hnl;have hO:=af hJ.own;obtain⟨sa,sc,rfl⟩:=hS.sl;rw[List.length_map]at hS⊢;replace hS:=af hS;clear hJ hnl;go_wp2_with fail
   go_ret
   exact⟨_,rfl,hS.out,hO.out⟩
theorem Rm(b:Nat)(v:Value)(L:List Bi)(w:World)(h:kL w b v L):
  Calls Tryz.prog 31 #[aN b] w fun e w'=> ∃v',e=.returned v'/\Sl 43 lU 2 w.heap.size w' v' (L.map iV)/\ai [] w w':=by
 have cT:=MW b v L w h;generalize L.map iV=LT at*;replace cT:=af cT;clear h;go_enter Tryz.func31,Tryz.ntmps31
 go_wp2_with fail
 refine cT.out.mono ?_;rintro e w2 ⟨v2,rfl,hS,hO⟩;obtain⟨sa,sc,rfl⟩:=hS.sl;change Hid _ at hS hO;clear cT;go_wp2_with fail
 go_ret
 exact⟨_,rfl,hS.out,hO.out⟩
end Go.Proofs.YtedcakchekaemaaGreatDoor
namespace Go.Proofs.YtedcakchekaemaaGreatDoor
open Go.RowKit
def dz(g n:ByteArray):ByteArray:=g++⟨#[47]⟩++n
theorem Ed(g n:ByteArray)(hg:g.size<=1048576)(hn:n.size<=1048576)(w:World):Calls Tryz.prog 101 #[.agg #[.string g,.string n]] w fun e w'=>e=.returned (.string (dz g n))/\ai [] w w':=by
 have aL:ai [] w (w.alloc (.cells #[.string g,.string n] 87)):=(ai.refl _ _).alloc _;have hb:=heap_alloc_new w (.cells #[.string g,.string n] 87);have c0:(w.alloc (.cells #[.string g,.string n] 87)).cell? ⟨w.heap.size,0,none⟩=some (.string g):=by rw[cell_of_row _ _ _ _ _ _ hb];rfl
 have c1:(w.alloc (.cells #[.string g,.string n] 87)).cell? ⟨w.heap.size,1,none⟩=some (.string n):=by rw[cell_of_row _ _ _ _ _ _ hb];rfl
 have i1: ¬9223372036854775807<g.size+1:=by omega
 have i2: ¬9223372036854775807<g.size+1+n.size:=by omega
 have i3: ¬9223372036854775807<(g++⟨#[47]⟩).size+n.size:=by
  rw[ByteArray.size_append];show¬9223372036854775807<g.size+1+n.size;omega
 go_enter Tryz.func101,Tryz.ntmps101
 go_wp2_with fail
 go_ret
 exact⟨rfl,aL⟩
theorem Vt(p b r m h bb:Nat)(gap asked:Int)(B:List Nat)(l:iH)(x:uR)(w:World)(hx:aV w b x)(hR:oz w r gap B l)
  (hp:w.heap[p]?=some (.cells #[.map (some m),aN h,aN bb,aN r,.int .i64 asked] 73 (0,0)))(hc:3<=x.code)(h0:0<=asked)(h1:asked<1000000)(hpb:p≠b)(Uw:p∉B)(hbB:b∉B)
  (hg:x.s.g.size<=1048576)(hn:x.s.n.size<=1048576)(hm:pK l gap (dz x.s.g x.s.n) x.at'=true):Calls Tryz.prog 58 #[aN p,aN b] w fun e w'=>
   e=.returned (.bool false)/\ai (b::p::B) w w'/\aV w' b {x with ask:=true}/\w'.heap[p]?=some (.cells #[.map (some m),aN h,aN bb,aN r,.int .i64 (asked+1)] 73 (0,0)):=by
 have cA:=af (fun W (hR:oz W r gap B l)=>Kl r gap B l (dz x.s.g x.s.n) x.at' W hR);have cT:=af (Ed x.s.g x.s.n hg hn);have hS:Hid (∀W',ai B w W'->W'.cell? ⟨b,10,none⟩=some (.int .i64 x.code)/\W'.cell? ⟨b,6,none⟩=some (.string x.s.g)/\W'.cell? ⟨b,7,none⟩=some (.string x.s.n)/\W'.cell? ⟨b,0,none⟩=some (.int .i64 x.at')/\W'.cell? ⟨p,3,none⟩=some (aN r)):=af (fun W' ho=>by
  obtain⟨e0,e1,e2,e3,e4,e5,e6,e7,e8,e9,e10,e11,e12,e13⟩:=bK (hx.own ho hbB);have q:=ho.heap hp Uw;exact⟨e10,e6,e7,e0,by rw[cell_of_row _ _ _ _ _ _ q];rfl⟩)
 have hS0:=hS.out w (ai.refl _ _);obtain⟨s1,s2,s3,s4,s5⟩:=hS0;go_enter Tryz.func58,Tryz.ntmps58
 go_wp2_with fail
 have hcc:(decide (3<=x.code))=true:=by simpa using hc
 have hw:ai B w w:=ai.refl _ _;have hwd:ai B w w.drew:=hw.drew;have kW:=hS.out _ hwd;go_region_held3(fun W'=>W'.cell? ⟨b,10,none⟩=some (.int .i64 x.code)/\W'.cell? ⟨b,6,none⟩=some (.string x.s.g)/\W'.cell? ⟨b,7,none⟩=some (.string x.s.n)/\W'.cell? ⟨b,0,none⟩=some (.int .i64 x.at')/\W'.cell? ⟨p,3,none⟩=some (aN r)) (first|with_reducible exact kB|with_reducible exact kA|with_reducible exact kW|go_keep)
  ((first
    |(go_at_call 101;(with_reducible refine(cT.out _).mono ?_);rintro e w2 ⟨rfl,hO2⟩;have og:ai B w w2:=(by first|exact hO2.nil|exact hwd.trans hO2.nil);have kA:=hS.out _ og;have hR2:=hR.nil (by first|exact hO2|exact((ai.refl [] w).drew).trans hO2))
    |(go_at_call 100;(with_reducible refine(cA.out _ hR2).mono ?_);rintro e w3 ⟨rfl,B',fB,hO3,hB3⟩;have dZ:=og.trans hO3;have kB:=hS.out _ dZ)))
 all_goals
  have jL:=hx.own dZ hbB;have hp3:=dZ.heap hp Uw;have c13:=(bK jL).2.2.2.2.2.2.2.2.2.2.2.2.2;have z13:=frozen_of_row _ b 13 _ _ jL;have kH:aV (w3.setCell ⟨b,13,none⟩ (.bool true)) b {x with ask:=true}:=by
   have:=heap_setCell_same _ b 13 _ _ (.bool true) jL;simpa[aV]using this
  have hO4:ai [b] w3 (w3.setCell ⟨b,13,none⟩ (.bool true)):=(ai.refl [b] w3).setCell (.inl (by simp)) _;have Ar:=hO4.heap hp3 (by simpa using hpb);have p4:(w3.setCell ⟨b,13,none⟩ (.bool true)).cell? ⟨p,4,none⟩=some (.int .i64 asked):=by rw[cell_of_row _ _ _ _ _ _ Ar];rfl
  have z4:=frozen_of_row _ p 4 _ _ Ar;have aF:ai [p] (w3.setCell ⟨b,13,none⟩ (.bool true)) ((w3.setCell ⟨b,13,none⟩ (.bool true)).setCell ⟨p,4,none⟩ (.int .i64 (asked+1))):=(ai.refl [p] _).setCell (.inl (by simp)) _;have iZ:=kH.own aF (by simpa using hpb.symm);have hp5:=heap_setCell_same _ p 4 _ _ (.int .i64 (asked+1)) Ar;have hOO:ai (b::p::B) w ((w3.setCell ⟨b,13,none⟩ (.bool true)).setCell ⟨p,4,none⟩ (.int .i64 (asked+1))):=
   ((dZ.mono (by intro y hy;simp[hy])).trans (hO4.mono (by simp))).trans (aF.mono (by simp))
  have hwr:IntKind.wrap .i64 (asked+1)=asked+1:=by rw[IntKind.wrap_i64];omega
  go_wp2_with fail
  go_ret
  refine⟨rfl,hOO,iZ,?_⟩;simpa using hp5
def nC(k:ByteArray×ByteArray):Value:=.agg #[.string k.1,.string k.2]
theorem D7(a b:ByteArray×ByteArray)(h:nC a=nC b):a=b:=by
 unfold nC at h;simp at h;exact Prod.ext h.1 h.2
theorem yS{l:List Field}{a b:String×TypeId×Nat}(h:l.map (fun f=>(f.name,f.type,f.offset))=[a,b]):
  ∃f g:Field,l=[f,g]/\f.name=a.1/\f.type=a.2.1/\f.offset=a.2.2/\g.name=b.1/\g.type=b.2.1/\g.offset=b.2.2:=by
 match l,h with
 | [f,g],h=>
   simp only[List.map_cons,List.map_nil,List.cons.injEq,and_true]at h;obtain⟨rfl,rfl⟩:=h;exact⟨f,g,rfl,rfl,rfl,rfl,rfl,rfl,rfl⟩
section
variable {P : Program} {t st : TypeId} {n1 n2 : String}
theorem uq(hs:P.plainKey st=true)(w:World)(a:ByteArray×ByteArray):(part st #[.string a.1,.string a.2] 0).run P w=.ok (.string a.1) w/\(part st #[.string a.1,.string a.2] 1).run P w=.ok (.string a.2) w:=
 ⟨run_part_plain w hs rfl,run_part_plain w hs rfl⟩
theorem GY(hf:(P.fieldsOf t).toList.map (fun f=>(f.name,f.type,f.offset))=[(n1,st,0),(n2,st,1)])(m1:n1≠ "_")(m2:n2≠ "_")(hu:P.underlying t=some (.struct (P.fieldsOf t)))(hst:P.stoodInHeld t=false)(hus:P.underlying st=some .string)(hs:P.plainKey st=true)
  (w:World)(a b:ByteArray×ByteArray):(Op.equal t (nC a) (nC b)).run P w=.ok (a==b) w:=by
 obtain⟨f,g,hl,e1,t1,o1,e2,t2,o2⟩:=yS hf;have h:=run_equalIn_struct (P:=P) w 9999 t #[.string a.1,.string a.2] #[.string b.1,.string b.2] hu hst;show(Op.equalIn (9999+1) t (.agg #[.string a.1,.string a.2]) (.agg #[.string b.1,.string b.2])).run P w=_;rw[h,hl];obtain⟨p1,p2⟩:=uq hs w a;obtain⟨q1,q2⟩:=uq hs w b;have se: ∀(a b:ByteArray),(Op.equalIn 9999 st (.string a) (.string b)).run P w=.ok (a==b) w:=fun a b=>by
  show(Op.equalIn (9998+1) st (.string a) (.string b)).run P w=_;rw[run_equalIn_string w 9998 st a b hus,beq_toListBytes]
 have s1:=se a.1 b.1;have s2:=se a.2 b.2;have hab:(a==b)=((a.1==b.1)&&(a.2==b.2)):=rfl;rw[hab];simp only at e1 t1 o1 e2 t2 o2;clear se hab h;generalize(a.1==b.1)=u at s1⊢;generalize(a.2==b.2)=v at s2⊢;simp only[Op.eqFields,e1,t1,o1,e2,t2,o2];simp only[m1,m2,ne_eq,not_false_eq_true,if_true,Sem.run_bind,p1,p2,q1,q2,s1,Result.andThen_ok];cases u<;>cases v<;>simp[p1,p2,q1,q2,s2,m2,Result.andThen_ok]
theorem GZ(hf:(P.fieldsOf t).toList.map (fun f=>(f.name,f.type,f.offset))=[(n1,st,0),(n2,st,1)])(hu:P.underlying t=some (.struct (P.fieldsOf t)))(hus:P.underlying st=some .string)(hs:P.plainKey st=true)
  (w:World)(em:Bool)(a:ByteArray×ByteArray):(Instr.checkKey em 10000 t (nC a)).run P w=.ok () w:=by
 obtain⟨f,g,hl,e1,t1,o1,e2,t2,o2⟩:=yS hf;obtain⟨p1,p2⟩:=uq hs w a;have c: ∀s,(Instr.checkKey em 9999 st (.string s)).run P w=.ok () w:=fun s=>by
  show(Instr.checkKey em (9998+1) st (.string s)).run P w=.ok () w;rw[Instr.checkKey];simp only[Sem.run_bind,run_underlying hus,Result.andThen_ok];rfl
 show(Instr.checkKey em (9999+1) t (.agg #[.string a.1,.string a.2])).run P w=_;rw[Instr.checkKey];simp only[Sem.run_bind,run_underlying hu,Result.andThen_ok];rw[<-Array.forIn_toList,hl];simp only[List.forIn_cons,List.forIn_nil,e1,t1,o1,e2,t2,o2];by_cases m1:n1= "_" <;>by_cases m2:n2= "_" <;>simp[m1,m2,p1,p2,c,Result.andThen_ok]
theorem LH(hf:(P.fieldsOf t).toList.map (fun f=>(f.name,f.type,f.offset))=[(n1,st,0),(n2,st,1)])(m1:n1≠ "_")(m2:n2≠ "_")(hu:P.underlying t=some (.struct (P.fieldsOf t)))(hst:P.stoodInHeld t=false)(hus:P.underlying st=some .string)(hs:P.plainKey st=true):
  eH P t nC where
 find:=Af (by rw[hu]) (GY hf m1 m2 hu hst hus hs)
 check:=GZ hf hu hus hs
 inj:=D7
 stays w a:=by
  unfold nC;simp[Instr.keyThatStays,Instr.sameBits]
end
end Go.Proofs.YtedcakchekaemaaGreatDoor
namespace Go.Proofs.YtedcakchekaemaaGreatDoor
open Go.RowKit
theorem JG(p b n r a:Nat)(g nm:ByteArray)(pe:Bool)(x:uR)(w:World)(h:aV w b x)(ht:x.text=⟨#[]⟩)(hk:x.s.k=3)(hn:x.node=.pointer (some ⟨n,0,none⟩))(hF:nP w n r a g nm pe)
  (hnr:n≠r)(hbn:b≠n)(hbr:b≠r):Calls Tryz.prog 56 #[aN p,aN b] w fun e w'=>e=.returned (.bool true)/\ai [b,n] w w'/\aV w' b {x with code:=5}/\nP w' n r a g nm true:=by
 obtain⟨c0,c1,c2,c3,c4,c5,c6,c7,c8,c9,c10,c11,c12,c13⟩:=bK h;rw[ht]at c2;obtain⟨cc,oo,hq⟩: ∃cc oo,(convert 9 23 (.string ⟨#[]⟩)).run Tryz.prog w=.ok (.slice (some ⟨w.heap.size,0,none⟩) 0 cc) (w.drew.alloc oo):=
  ⟨_,_,run_bytes_of_string w 9 23 5 ⟨#[]⟩ Tryz.underlying9 Tryz.underlying23 Tryz.underlying5⟩
 have aL:ai [] w (w.drew.alloc oo):=(ai.refl [] w).drew.alloc oo;have cP:=af PL;go_enter Tryz.func56,Tryz.ntmps56
 go_wp2_with fail
 refine(cP.out _ _ _).mono ?_;rintro e w1 ⟨rfl,hO⟩;unfold kQ;have hO2:ai [] w w1:=aL.trans hO;have hE1:=h.own hO2 (by simp);have hF1:=hF.own hO2;have hP1:=(ai.refl [] w1).alloc (.cells #[.int .u64 0,.bool false,.int .u64 0,.string ⟨#[]⟩,.string ⟨#[]⟩,.slice none 0 0] 54);obtain⟨d0,d1,d2,d3,d4,d5,d6,d7,d8,d9,Av,BQ,BR,Dl⟩:=bK (hE1.own hP1 (by simp));rw[hn]at d9;rw[hk]at d5;obtain⟨y0,y1,y2,y3,y4,y5⟩:=PK (heap_alloc_new w1 (.cells #[.int .u64 0,.bool false,.int .u64 0,.string ⟨#[]⟩,.string ⟨#[]⟩,.slice none 0 0] 54));go_wp2_with fail
 have hF2:=hF1.own hP1;have hE2:=hE1.own hP1 (by simp);have hO3:ai [b,n] w (w1.alloc (.cells #[.int .u64 0,.bool false,.int .u64 0,.string ⟨#[]⟩,.string ⟨#[]⟩,.slice none 0 0] 54)):=(hO2.alloc _).nil;have hn1:n<w1.heap.size:=Nat.lt_of_lt_of_le (aj hF.1) hO2.size;have hb1:b<w1.heap.size:=Nat.lt_of_lt_of_le (aj h) hO2.size;generalize w1.alloc (.cells #[.int .u64 0,.bool false,.int .u64 0,.string ⟨#[]⟩,.string ⟨#[]⟩,.slice none 0 0] 54)=W at*;have cT:=af (fun W' (hF:nP W' n r a g nm pe)=>DR hF hnr x.s.d);unfold kQ at cT;replace hF2:=af hF2;have hFd:Hid (nP W.drew n r a g nm pe):=af (hF2.out.own ((ai.refl [] W).drew));have hS:Hid (∀W' y,ai [b,n] W W'->aV W' b y->y.s=x.s->y.node=x.node->W'.cell? ⟨b,9,none⟩=some (.pointer (some ⟨n,0,none⟩))/\W'.cell? ⟨b,5,none⟩=some (.int .i64 3)/\W'.cell? ⟨b,8,none⟩=some (.string x.s.d)/\W'.cell? ⟨w1.heap.size,0,none⟩=some (.int .u64 0)/\W'.cell? ⟨w1.heap.size,1,none⟩=some (.bool false)/\W'.cell? ⟨w1.heap.size,2,none⟩=some (.int .u64 0)/\W'.cell? ⟨w1.heap.size,3,none⟩=some (.string ⟨#[]⟩)/\W'.cell? ⟨w1.heap.size,4,none⟩=some (.string ⟨#[]⟩)/\W'.cell? ⟨w1.heap.size,5,none⟩=some (.slice none 0 0)):=af (fun W' y ho hy qs qn=>by
  have m2:w1.heap.size∉[b,n]:=by simp;omega
  obtain⟨e0,e1,e2,e3,e4,e5,e6,e7,e8,e9,e10,e11,e12,e13⟩:=bK hy;rw[qs]at e5 e8;rw[qn,hn]at e9;rw[hk]at e5;exact⟨e9,e5,e8,(ho.cell (block_lt_of_cell y0) m2).trans y0,(ho.cell (block_lt_of_cell y1) m2).trans y1,(ho.cell (block_lt_of_cell y2) m2).trans y2,(ho.cell (block_lt_of_cell y3) m2).trans y3,(ho.cell (block_lt_of_cell y4) m2).trans y4,(ho.cell (block_lt_of_cell y5) m2).trans y5⟩)
 clear hP1 aL hO hO2 hE1 hF1 hq h hF cP c0 c1 c2 c3 c4 c5 c6 c7 c8 c9 c10 c11 c12 c13;go_region_held3(fun W'=>W'.cell? ⟨b,9,none⟩=some (.pointer (some ⟨n,0,none⟩))/\W'.cell? ⟨b,5,none⟩=some (.int .i64 3)/\W'.cell? ⟨b,8,none⟩=some (.string x.s.d)/\W'.cell? ⟨w1.heap.size,0,none⟩=some (.int .u64 0)/\W'.cell? ⟨w1.heap.size,1,none⟩=some (.bool false)/\W'.cell? ⟨w1.heap.size,2,none⟩=some (.int .u64 0)/\W'.cell? ⟨w1.heap.size,3,none⟩=some (.string ⟨#[]⟩)/\W'.cell? ⟨w1.heap.size,4,none⟩=some (.string ⟨#[]⟩)/\W'.cell? ⟨w1.heap.size,5,none⟩=some (.slice none 0 0)) (first|with_reducible exact kA|with_reducible exact kB|go_keep) ((go_at_call 96;((with_reducible refine(cT.out _ (by first|exact hF2.out|exact hFd.out)).mono ?_);rintro e w3 ⟨rfl,OO,hFt⟩;have dK:ai [n] W w3:=(by first|exact OO|exact((ai.refl [n] W).drew).trans OO);have jL:=hE2.own dK (by simpa using hbn);have dx:ai [b,n] W w3:=dK.mono (by simp);have kA:=hS.out _ x dx jL rfl rfl;have z10:=frozen_of_row _ b 10 _ _ jL;have kH:aV (w3.setCell ⟨b,10,none⟩ (.int .i64 5)) b {x with code:=5}:=(by have:=heap_setCell_same _ b 10 _ _ (.int .i64 5) jL;simpa[aV]using this);have hO4:ai [b,n] W (w3.setCell ⟨b,10,none⟩ (.int .i64 5)):=dx.setCell (.inl (by simp)) _;have kB:=hS.out _ _ hO4 kH rfl rfl;have c10:=(bK jL).2.2.2.2.2.2.2.2.2.2.1)))
 all_goals
  have hb3:ai [b] w3 (w3.setCell ⟨b,10,none⟩ (.int .i64 5)):=(ai.refl [b] w3).setCell (.inl (by simp)) _;have Yv:nP (w3.setCell ⟨b,10,none⟩ (.int .i64 5)) n r a g nm true:=⟨hb3.heap hFt.1 (by simpa using hbn.symm),hb3.heap hFt.2 (by simpa using hbr.symm)⟩;have aF:=hO3.trans hO4;go_wp2_with fail
  go_ret
  exact⟨rfl,aF,kH,Yv⟩
theorem G5:(Tryz.prog.fieldsOf 87).toList.map (fun f=>(f.name,f.type,f.offset))=[("group",9,0),("name",9,1)]:=by kernel_rfl
theorem LJ:Tryz.prog.underlying 87=some (.struct (Tryz.prog.fieldsOf 87)):=by kernel_rfl
theorem gI:eH Tryz.prog 87 dm:=
 LH G5 (by decide) (by decide) LJ (by kernel_rfl) Tryz.underlying9 (by kernel_rfl)
theorem iw:Tryz.prog.underlying 67=some (.map 87 78):=Tryz.underlying67
end Go.Proofs.YtedcakchekaemaaGreatDoor
namespace Go.Proofs.YtedcakchekaemaaGreatDoor
open Go.RowKit
variable [Kd]
structure gZ where
 g:ByteArray
 n:ByteArray
 blk:Nat
 L:EW
 s:EN
def gZ.key(x:gZ):Rk:=(x.g,x.n)
def gZ.feet(x:gZ):List Nat:=x.L.feet x.blk
structure aW where
 p:Nat
 m:Nat
 h:Nat
 hm:Nat
 bb:Nat
 bv:Value
 r:Nat
 RB:List Nat
 NS:List gZ
 hs:tu
 bi:List Bi
 ra:iH
 asked:Int
def Dj(a b:List Nat):Prop:= ∀z∈a,z∉b
def aW.parts(K:aW):List (List Nat):=[K.p]::[K.m]::[K.h,K.hm]::bC K.bb K.bv::K.RB::K.NS.map gZ.feet
def aW.feet(K:aW):List Nat:=K.parts.flatten
structure bE (w:World) (K:aW):Prop where
 sp:w.heap[K.p]?=some (.cells #[.map (some K.m),aN K.h,aN K.bb,aN K.r,.int .i64 K.asked] 73 (0,0))
 nm:dI dm w K.m (K.NS.map fun x=>(x.key,aN x.blk))
 eds: ∀x∈K.NS,au w x.blk x.g x.n x.L x.s
 ho:kM w K.h K.hm K.hs
 bi:kL w K.bb K.bv K.bi
 ra:oz w K.r 10 K.RB K.ra
 apart:K.parts.Pairwise Dj
 lt: ∀z∈K.feet,z<w.heap.size
 nd:(K.NS.map gZ.key).Nodup
 few:K.NS.length<=8
 ask:0<=K.asked/\K.asked<=1000000
theorem oU{A B:List (List Nat)}{C:List Nat}(h:(A++C::B).Pairwise Dj): ∀a∈A++B,∀z∈a,z∉C:=by
 rw[List.pairwise_append,List.pairwise_cons]at h;obtain⟨_,⟨h2,_⟩,h3⟩:=h;intro a ha z hz hc;rcases List.mem_append.1 ha with ha|ha
 ·exact h3 a ha C (by simp) z hz hc
 ·exact h2 a ha z hc hz
theorem CS{A B:List (List Nat)}{C C':List Nat}{n:Nat}(h:(A++C::B).Pairwise Dj)(hn: ∀z∈(A++C::B).flatten,z<n)(hC: ∀z∈C',z∈C\/n<=z):(A++C'::B).Pairwise Dj:=by
 have hd:=oU h;have hlt: ∀a∈A++B,∀z∈a,z<n:=fun a ha z hz=>hn z (List.mem_flatten.2 ⟨a,by
  rcases List.mem_append.1 ha with h1|h1
  ·exact List.mem_append_left _ h1
  ·exact List.mem_append_right _ (List.mem_cons_of_mem _ h1),hz⟩)
 have hno: ∀a∈A++B,∀z∈a,z∉C':=fun a ha z hz hc=>by
  rcases hC z hc with h1|h1
  ·exact hd a ha z hz h1
  ·have:=hlt a ha z hz;omega
 rw[List.pairwise_append,List.pairwise_cons]at h⊢;obtain⟨h1,⟨h2,h3⟩,h4⟩:=h;refine⟨h1,⟨fun a ha z hz hc=>hno a (List.mem_append_right _ ha) z hc hz,h3⟩,fun a ha b hb=>?_⟩;rcases List.mem_cons.1 hb with rfl|hb
 ·exact hno a (List.mem_append_left _ ha)
 ·exact h4 a ha b (List.mem_cons_of_mem _ hb)
theorem Wl{A:List (List Nat)}{C':List Nat}{n:Nat}(h:A.Pairwise Dj)(hn: ∀z∈A.flatten,z<n)(hC: ∀z∈C',n<=z):(A++[C']).Pairwise Dj:=by
 rw[List.pairwise_append];refine⟨h,List.pairwise_singleton _ _,fun a ha b hb z hz hc=>?_⟩;rw[List.mem_singleton]at hb;subst hb;have h1:=hn z (List.mem_flatten.2 ⟨a,ha,hz⟩);have h2:=hC z hc;omega
theorem aW.part{K:aW}{a:List Nat}(ha:a∈K.parts){z:Nat}(hz:z∈a):z∈K.feet:=List.mem_flatten.2 ⟨a,ha,hz⟩
theorem aW.memN{K:aW}{x:gZ}(hx:x∈K.NS):x.feet∈K.NS.map gZ.feet:=List.mem_map.2 ⟨x,hx,rfl⟩
theorem bE.own{S:List Nat}{w w':World}{K:aW}(H:bE w K)(ho:ai S w w')(hS: ∀z∈K.feet,z∉S):bE w' K:=by
 have hp:=fun a (ha:a∈K.parts) z (hz:z∈a)=>hS z (aW.part ha hz)
 exact⟨ho.heap H.sp (hp [K.p] (by simp[aW.parts]) _ (by simp)),H.nm.own ho (hp [K.m] (by simp[aW.parts]) _ (by simp)),
  fun x hx=>(H.eds x hx).own ho (fun z hz=>hp x.feet (by have:=aW.memN hx;simp only[aW.parts,List.mem_cons];exact .inr (.inr (.inr (.inr (.inr this))))) z hz),
  H.ho.own ho (hp [K.h,K.hm] (by simp[aW.parts]) _ (by simp)) (hp [K.h,K.hm] (by simp[aW.parts]) _ (by simp)),
  H.bi.own ho (hp (bC K.bb K.bv) (by simp[aW.parts])),H.ra.own ho (hp K.RB (by simp[aW.parts])),H.apart,fun z hz=>Nat.lt_of_lt_of_le (H.lt z hz) ho.size,H.nd,H.few,H.ask⟩
theorem bE.nil'{w w':World}{K:aW}(H:bE w K)(ho:ai [] w w'):bE w' K:=H.own ho (by simp)
structure SP where
 nodes:List (Rk×EN)
 hs:tu
 bi:List Bi
 ra:iH
 asked:Int
def aW.sp(K:aW):SP:=⟨K.NS.map fun x=>(x.key,x.s),K.hs,K.bi,K.ra,K.asked⟩
theorem bE.hosts{w w':World}{K:aW}{st:tu}(H:bE w K)(hH:kM w' K.h K.hm st)(ho:ai [K.h,K.hm] w w'):bE w' {K with hs:=st}:=by
 have hn:=oU (A:=[[K.p],[K.m]]) (C:=[K.h,K.hm]) (B:=bC K.bb K.bv::K.RB::K.NS.map gZ.feet) H.apart;exact⟨ho.heap H.sp (hn [K.p] (by simp) _ (by simp)),H.nm.own ho (hn [K.m] (by simp) _ (by simp)),fun x hx=>(H.eds x hx).own ho (fun z hz=>hn x.feet (by have:=aW.memN hx;simp only[List.cons_append,List.nil_append,List.mem_cons];exact .inr (.inr (.inr (.inr this)))) z hz),hH,
  H.bi.own ho (hn (bC K.bb K.bv) (by simp)),H.ra.own ho (hn K.RB (by simp)),H.apart,fun z hz=>Nat.lt_of_lt_of_le (H.lt z hz) ho.size,H.nd,H.few,H.ask⟩
theorem bE.births{w w':World}{K:aW}{v:Value}{L:List Bi}(H:bE w K)(hB:kL w' K.bb v L)(ho:ai (bC K.bb K.bv) w w')(hf: ∀z∈bC K.bb v,z∈bC K.bb K.bv\/w.heap.size<=z):
  bE w' {K with bv:=v,bi:=L}/\ ∀z∈aW.feet {K with bv:=v,bi:=L},z∈K.feet\/w.heap.size<=z:=by
 have hn:=oU (A:=[[K.p],[K.m],[K.h,K.hm]]) (C:=bC K.bb K.bv) (B:=K.RB::K.NS.map gZ.feet) H.apart;have hap:=CS (A:=[[K.p],[K.m],[K.h,K.hm]]) (C:=bC K.bb K.bv) (B:=K.RB::K.NS.map gZ.feet) H.apart H.lt hf;have hft: ∀z∈aW.feet {K with bv:=v,bi:=L},z∈K.feet\/w.heap.size<=z:=fun z hz=>by
  obtain⟨a,ha,hz⟩:=List.mem_flatten.1 hz;simp only[aW.parts,List.mem_cons]at ha;have hq: ∀b,b∈K.parts->z∈b->z∈K.feet\/w.heap.size<=z:=fun b hb hzb=>.inl (aW.part hb hzb)
  rcases ha with rfl|rfl|rfl|rfl|rfl|ha
  ·exact hq [K.p] (by simp[aW.parts]) hz
  ·exact hq [K.m] (by simp[aW.parts]) hz
  ·exact hq [K.h,K.hm] (by simp[aW.parts]) hz
  ·rcases hf z hz with h1|h1
   ·exact hq (bC K.bb K.bv) (by simp[aW.parts]) h1
   ·exact .inr h1
  ·exact hq K.RB (by simp[aW.parts]) hz
  ·exact hq a (by simp only[aW.parts,List.mem_cons];exact .inr (.inr (.inr (.inr (.inr ha))))) hz
 refine⟨⟨ho.heap H.sp (hn [K.p] (by simp) _ (by simp)),H.nm.own ho (hn [K.m] (by simp) _ (by simp)),fun x hx=>(H.eds x hx).own ho (fun z hz=>hn x.feet (by have:=aW.memN hx;simp only[List.cons_append,List.nil_append,List.mem_cons];exact .inr (.inr (.inr (.inr this)))) z hz),
  H.ho.own ho (hn [K.h,K.hm] (by simp) _ (by simp)) (hn [K.h,K.hm] (by simp) _ (by simp)),hB,H.ra.own ho (hn K.RB (by simp)),hap,fun z hz=>?_,H.nd,H.few,H.ask⟩,hft⟩
 rcases hft z hz with h1|h1
 ·exact Nat.lt_of_lt_of_le (H.lt z h1) ho.size
 ·obtain⟨a,ha,hz⟩:=List.mem_flatten.1 hz
  simp only[aW.parts,List.mem_cons]at ha;have hq: ∀b,b∈K.parts->z∈b->z<w'.heap.size:=fun b hb hzb=>Nat.lt_of_lt_of_le (H.lt z (aW.part hb hzb)) ho.size
  rcases ha with rfl|rfl|rfl|rfl|rfl|ha
  ·exact hq [K.p] (by simp[aW.parts]) hz
  ·exact hq [K.m] (by simp[aW.parts]) hz
  ·exact hq [K.h,K.hm] (by simp[aW.parts]) hz
  ·exact hB.lt z hz
  ·exact hq K.RB (by simp[aW.parts]) hz
  ·exact hq a (by simp only[aW.parts,List.mem_cons];exact .inr (.inr (.inr (.inr (.inr ha))))) hz
theorem gZ.lt{w:World}{x:gZ}(h:au w x.blk x.g x.n x.L x.s): ∀z∈x.feet,z<w.heap.size:=h.lt
theorem bE.node{w w':World}{K:aW}{A B:List gZ}{x:gZ}{L:EW}{s:EN}(H:bE w K)(Dq:K.NS=A++x::B)(hE:au w' x.blk x.g x.n L s)(ho:ai x.feet w w')(hf: ∀z∈L.feet x.blk,z∈x.feet\/w.heap.size<=z):
  bE w' {K with NS:=A++{x with L:=L,s:=s}::B}/\ ∀z∈aW.feet {K with NS:=A++{x with L:=L,s:=s}::B},z∈K.feet\/w.heap.size<=z:=by
 have hp0:K.parts=([K.p]::[K.m]::[K.h,K.hm]::bC K.bb K.bv::K.RB::A.map gZ.feet)++x.feet::B.map gZ.feet:=by unfold aW.parts;rw[Dq];simp
 have hp1:aW.parts {K with NS:=A++{x with L:=L,s:=s}::B}=([K.p]::[K.m]::[K.h,K.hm]::bC K.bb K.bv::K.RB::A.map gZ.feet)++L.feet x.blk::B.map gZ.feet:=by unfold aW.parts;simp[gZ.feet]
 have aaN:=H.apart;have OU:=H.lt;unfold aW.feet at OU;rw[hp0]at aaN OU;have hn:=oU aaN;have hap:=CS aaN OU hf;have hft: ∀z∈aW.feet {K with NS:=A++{x with L:=L,s:=s}::B},z∈K.feet\/w.heap.size<=z:=fun z hz=>by
  unfold aW.feet at hz⊢;rw[hp1]at hz;rw[hp0];simp only[List.flatten_append,List.flatten_cons,List.mem_append]at hz⊢;rcases hz with hz|hz|hz
  ·exact .inl (.inl hz)
  ·rcases hf z hz with h1|h1
   ·exact .inl (.inr (.inl h1))
   ·exact .inr h1
  ·exact .inl (.inr (.inr hz))
 have hsz:=ho.size;refine⟨⟨ho.heap H.sp (hn [K.p] (by simp) _ (by simp)),?_,fun y hy=>?_,H.ho.own ho (hn [K.h,K.hm] (by simp) _ (by simp)) (hn [K.h,K.hm] (by simp) _ (by simp)),H.bi.own ho (hn (bC K.bb K.bv) (by simp)),H.ra.own ho (hn K.RB (by simp)),by rw[hp1];exact hap,fun z hz=>?_,?_,?_,H.ask⟩,hft⟩
 ·have:=H.nm.own ho (hn [K.m] (by simp) _ (by simp))
  rw[Dq]at this;simpa[gZ.key]using this
 ·rcases List.mem_append.1 hy with h1|h1
  ·exact(H.eds y (by rw[Dq];exact List.mem_append_left _ h1)).own ho (fun z hz=>hn y.feet (List.mem_append_left _ (by have:y.feet∈A.map gZ.feet:=List.mem_map.2 ⟨y,h1,rfl⟩;simp only[List.mem_cons];exact .inr (.inr (.inr (.inr (.inr this)))))) z hz)
  ·rcases List.mem_cons.1 h1 with rfl|h1
   ·exact hE
   ·exact(H.eds y (by rw[Dq];exact List.mem_append_right _ (List.mem_cons_of_mem _ h1))).own ho (fun z hz=>hn y.feet (List.mem_append_right _ (List.mem_map.2 ⟨y,h1,rfl⟩)) z hz)
 ·unfold aW.feet at hz
  rw[hp1]at hz;simp only[List.flatten_append,List.flatten_cons,List.mem_append]at hz OU;rcases hz with hz|hz|hz
  ·exact Nat.lt_of_lt_of_le (OU z (.inl hz)) hsz
  ·exact hE.lt z hz
  ·exact Nat.lt_of_lt_of_le (OU z (.inr (.inr hz))) hsz
 ·have:=H.nd
  rw[Dq]at this;simpa[gZ.key]using this
 ·have:=H.few
  rw[Dq]at this;simpa using this
theorem bE.push{w w':World}{K:aW}{x:gZ}(H:bE w K)(hE:au w' x.blk x.g x.n x.L x.s)(ho:ai [K.m] w w')(hM:dI dm w' K.m (K.NS.map (fun x=>(x.key,aN x.blk))++[(x.key,aN x.blk)]))(hf: ∀z∈x.feet,w.heap.size<=z)(hk:x.key∉K.NS.map gZ.key)(hl:K.NS.length<8):
  bE w' {K with NS:=K.NS++[x]}/\ ∀z∈aW.feet {K with NS:=K.NS++[x]},z∈K.feet\/w.heap.size<=z:=by
 have hp1:aW.parts {K with NS:=K.NS++[x]}=K.parts++[x.feet]:=by unfold aW.parts;simp
 have hn:=oU (A:=[[K.p]]) (C:=[K.m]) (B:=[K.h,K.hm]::bC K.bb K.bv::K.RB::K.NS.map gZ.feet) H.apart;have hft: ∀z∈aW.feet {K with NS:=K.NS++[x]},z∈K.feet\/w.heap.size<=z:=fun z hz=>by
  unfold aW.feet at hz⊢;rw[hp1]at hz;simp only[List.flatten_append,List.flatten_cons,List.flatten_nil,List.append_nil,List.mem_append]at hz;exact hz.imp id (hf z)
 have hsz:=ho.size;refine⟨⟨ho.heap H.sp (hn [K.p] (by simp) _ (by simp)),by simpa using hM,fun y hy=>?_,H.ho.own ho (hn [K.h,K.hm] (by simp) _ (by simp)) (hn [K.h,K.hm] (by simp) _ (by simp)),H.bi.own ho (hn (bC K.bb K.bv) (by simp)),H.ra.own ho (hn K.RB (by simp)),by rw[hp1];exact Wl H.apart H.lt hf,fun z hz=>?_,?_,by simp;omega,H.ask⟩,hft⟩
 ·rcases List.mem_append.1 hy with h1|h1
  ·exact(H.eds y h1).own ho (fun z hz=>hn y.feet (by have:=aW.memN h1;simp only[List.cons_append,List.nil_append,List.mem_cons];exact .inr (.inr (.inr (.inr this)))) z hz)
  ·rw[List.mem_singleton]at h1
   subst h1;exact hE
 ·unfold aW.feet at hz
  rw[hp1]at hz;simp only[List.flatten_append,List.flatten_cons,List.flatten_nil,List.append_nil,List.mem_append]at hz;rcases hz with hz|hz
  ·exact Nat.lt_of_lt_of_le (H.lt z hz) hsz
  ·exact hE.lt z hz
 ·rw[List.map_append,List.nodup_append]
  exact⟨H.nd,by simp,fun a ha b hb e=>by simp at hb;subst hb;subst e;exact hk ha⟩
theorem bE.rate{w w':World}{K:aW}{B:List Nat}{l:iH}{n:Int}(H:bE w K)(hR:oz w' K.r 10 B l)(ho:ai (K.p::K.RB) w w')(hp:w'.heap[K.p]?=some (.cells #[.map (some K.m),aN K.h,aN K.bb,aN K.r,.int .i64 n] 73 (0,0)))(hf: ∀z∈B,z∈K.RB\/w.heap.size<=z)(hb: ∀z∈B,z<w'.heap.size)(hn:0<=n/\n<=1000000):
  bE w' {K with RB:=B,ra:=l,asked:=n}/\ ∀z∈aW.feet {K with RB:=B,ra:=l,asked:=n},z∈K.feet\/w.heap.size<=z:=by
 have hn1:=oU (A:=[]) (C:=[K.p]) (B:=[K.m]::[K.h,K.hm]::bC K.bb K.bv::K.RB::K.NS.map gZ.feet) H.apart;have hn2:=oU (A:=[[K.p],[K.m],[K.h,K.hm],bC K.bb K.bv]) (C:=K.RB) (B:=K.NS.map gZ.feet) H.apart;have hap:=CS (A:=[[K.p],[K.m],[K.h,K.hm],bC K.bb K.bv]) (C:=K.RB) (C':=B) (B:=K.NS.map gZ.feet) H.apart H.lt hf;have hno: ∀a,a∈[K.m]::[K.h,K.hm]::bC K.bb K.bv::K.RB::K.NS.map gZ.feet->a∈[[K.p],[K.m],[K.h,K.hm],bC K.bb K.bv]++K.NS.map gZ.feet-> ∀z∈a,z∉K.p::K.RB:=fun a h1 h2 z hz hc=>by
  rcases List.mem_cons.1 hc with hc|hc
  ·exact hn1 a (by simpa using h1) z hz (by simp[hc])
  ·exact hn2 a h2 z hz hc
 have hft: ∀z∈aW.feet {K with RB:=B,ra:=l,asked:=n},z∈K.feet\/w.heap.size<=z:=fun z hz=>by
  obtain⟨a,ha,hy⟩:=List.mem_flatten.1 hz;simp only[aW.parts,List.mem_cons]at ha;have hq: ∀b,b∈K.parts->z∈b->z∈K.feet\/w.heap.size<=z:=fun b hb hzb=>.inl (aW.part hb hzb)
  rcases ha with rfl|rfl|rfl|rfl|rfl|ha
  ·exact hq [K.p] (by simp[aW.parts]) hy
  ·exact hq [K.m] (by simp[aW.parts]) hy
  ·exact hq [K.h,K.hm] (by simp[aW.parts]) hy
  ·exact hq (bC K.bb K.bv) (by simp[aW.parts]) hy
  ·rcases hf z hy with h1|h1
   ·exact hq K.RB (by simp[aW.parts]) h1
   ·exact .inr h1
  ·exact hq a (by simp only[aW.parts,List.mem_cons];exact .inr (.inr (.inr (.inr (.inr ha))))) hy
 refine⟨⟨hp,H.nm.own ho (hno [K.m] (by simp) (by simp) _ (by simp)),fun x hx=>(H.eds x hx).own ho (fun z hz=>hno x.feet (by have:=aW.memN hx;simp only[List.mem_cons];exact .inr (.inr (.inr (.inr this)))) (List.mem_append_right _ (aW.memN hx)) z hz),H.ho.own ho (hno [K.h,K.hm] (by simp) (by simp) _ (by simp)) (hno [K.h,K.hm] (by simp) (by simp) _ (by simp)),
  H.bi.own ho (hno (bC K.bb K.bv) (by simp) (by simp)),hR,hap,fun z hz=>?_,H.nd,H.few,hn⟩,hft⟩
 obtain⟨a,ha,hy⟩:=List.mem_flatten.1 hz;simp only[aW.parts,List.mem_cons]at ha;have hq: ∀b,b∈K.parts->z∈b->z<w'.heap.size:=fun b hb hzb=>Nat.lt_of_lt_of_le (H.lt z (aW.part hb hzb)) ho.size
 rcases ha with rfl|rfl|rfl|rfl|rfl|ha
 ·exact hq [K.p] (by simp[aW.parts]) hy
 ·exact hq [K.m] (by simp[aW.parts]) hy
 ·exact hq [K.h,K.hm] (by simp[aW.parts]) hy
 ·exact hq (bC K.bb K.bv) (by simp[aW.parts]) hy
 ·exact hb z hy
 ·exact hq a (by simp only[aW.parts,List.mem_cons];exact .inr (.inr (.inr (.inr (.inr ha))))) hy
end Go.Proofs.YtedcakchekaemaaGreatDoor
namespace Go.Proofs.YtedcakchekaemaaGreatDoor
open Go.RowKit
theorem xK(w:World):(zeroValue 78).run Tryz.prog w=.ok (.pointer none) w:=by kernel_rfl
theorem Rz(p b m h bb r:Nat)(asked:Int)(x:uR)(w:World)(hx:aV w b x)(hp:w.heap[p]?=some (.cells #[.map (some m),aN h,aN bb,aN r,.int .i64 asked] 73 (0,0)))
  (hM:dI dm w m [])(hg:(x.s.g.toList==[])=false)(hn:(x.s.n.toList==[])=false)(hbp:b≠p)(yx:b≠m)(hpm:p≠m):
  Calls Tryz.prog 55 #[aN p,aN b] w fun e w'=>e=.returned (.bool true)/\ ∃n rr a,w.heap.size<=n/\w.heap.size<=rr/\n≠rr/\
   aV w' b {x with vg:=x.s.g,node:=.pointer (some ⟨n,0,none⟩)}/\nP w' n rr a x.s.g x.s.n false/\dI dm w' m [((x.s.g,x.s.n),.pointer (some ⟨n,0,none⟩))]/\ai [b,m] w w':=by
 obtain⟨c0,c1,c2,c3,c4,c5,c6,c7,c8,c9,c10,c11,c12,c13⟩:=bK hx;have p0:w.cell? ⟨p,0,none⟩=some (.map (some m)):=by rw[cell_of_row _ _ _ _ _ _ hp];rfl
 have cN:=af fun W=>LC x.s.g x.s.n hg hn W
 go_enter Tryz.func55,Tryz.ntmps55
 have hA1:=(ai.refl [] w).alloc (.cells #[.string ⟨#[]⟩,.string ⟨#[]⟩] 87);have hx1:=hx.own hA1 (by simp);obtain⟨d0,d1,d2,d3,d4,d5,d6,d7,d8,d9,Av,BQ,BR,Dl⟩:=bK hx1;go_wp2_with fail
 go_region
 all_goals
  generalize hW1:World.alloc _ _=W1;have aL:ai [] w W1:=by rw[<-hW1];first|exact(ai.refl [] w).drew.alloc _|exact((ai.refl [] w).alloc _).drew|exact(ai.refl [] w).alloc _
  have hk1:W1.drew.heap[w.heap.size]?=some (.cells #[.string x.s.g,.string x.s.n] 87 (0,0)):=by rw[<-hW1];exact heap_alloc_new _ _
  have hO2:ai [] w W1.drew:=aL.drew;clear aL hW1 hx1 hA1 d0 d1 d2 d3 d4 d5 d6 d7 d8 d9 Av BQ BR Dl;generalize W1.drew=W2 at*;obtain⟨kb,hkb⟩: ∃kb,kb=w.heap.size:=⟨_,rfl⟩;rw[<-hkb]at hk1⊢;have hbl:=aj hx;have hpl:=aj hp;have hml:=hM.lt;have hbk:b<kb:=by omega
  have hpk:p<kb:=by omega
  have hmk:m<kb:=by omega
  have hkw:w.heap.size<=kb:=by omega
  clear hkb hbl hpl hml;have hE2:=hx.own hO2 (by simp);have jL:aV (W2.setCell ⟨b,11,none⟩ (.string x.s.g)) b {x with vg:=x.s.g}:=by
   have:=heap_setCell_same _ b 11 _ _ (.string x.s.g) hE2;simpa[aV]using this
  have hO3:ai [b] w (W2.setCell ⟨b,11,none⟩ (.string x.s.g)):=(hO2.nil).setCell (.inl (by simp)) _;have dO:ai [b] W2 (W2.setCell ⟨b,11,none⟩ (.string x.s.g)):=(ai.refl _ _).setCell (.inl (by simp)) _;have X4:=frozen_of_row _ b 11 _ _ hE2;have b11:=(bK hE2).2.2.2.2.2.2.2.2.2.2.2.1;have k0:W2.cell? ⟨kb,0,none⟩=some (.string x.s.g):=cell_of_row _ kb 0 _ _ _ hk1;have k1:W2.cell? ⟨kb,1,none⟩=some (.string x.s.n):=cell_of_row _ kb 1 _ _ _ hk1;have hk3:=dO.heap hk1 (by simp;omega);have hp3:=hO3.heap hp (by simpa using hbp.symm);have eO:=hM.own hO3 (by simpa using yx.symm);clear c0 c1 c2 c3 c4 c5 c6 c7 c8 c9 c10 c11 c12 c13 p0;generalize hW3:W2.setCell ⟨b,11,none⟩ (.string x.s.g)=W3 at*;have f0:W3.cell? ⟨kb,0,none⟩=some (.string x.s.g):=cell_of_row _ kb 0 _ _ _ hk3;have f1:W3.cell? ⟨kb,1,none⟩=some (.string x.s.n):=cell_of_row _ kb 1 _ _ _ hk3;have q0:W3.cell? ⟨p,0,none⟩=some (.map (some m)):=by rw[cell_of_row _ _ _ _ _ _ hp3];rfl
  have hlk:=eO.lookup_no gI iw (x.s.g,x.s.n) (xK W3) rfl true;have hlk2:=(eO.own ((ai.refl [] W3).drew) (by simp)).lookup_no gI iw (x.s.g,x.s.n) (xK W3.drew) rfl true;simp only[dm,if_true]at hlk hlk2;go_wp2_with fail
  go_region
  all_goals
   go_wp2_with fail
   refine(cN.out _).mono ?_;rintro e w4 ⟨n,rr,a,rfl,hO4,hn1,hnr,hr1,hF⟩;have lq:ai [] W3 w4:=(ai.refl [] W3).drew.trans hO4;have hn2:W3.heap.size<=n:=by simpa using hn1
   have hr2:W3.heap.size<=rr:=by simpa using hr1
   have hz2:=hO2.size;have hz3:=hO3.size;have hk4:=lq.heap hk3 (by simp);have Ar:=lq.heap hp3 (by simp);have xX:=eO.own lq (by simp);have kH:=jL.own lq (by simp);have hb3:=aj jL;have g0:w4.cell? ⟨kb,0,none⟩=some (.string x.s.g):=cell_of_row _ kb 0 _ _ _ hk4;have g1:w4.cell? ⟨kb,1,none⟩=some (.string x.s.n):=cell_of_row _ kb 1 _ _ _ hk4;have r0:w4.cell? ⟨p,0,none⟩=some (.map (some m)):=by rw[cell_of_row _ _ _ _ _ _ Ar];rfl
   have hlen:=xX.len_run (P:=Tryz.prog) iw;obtain⟨w5,hu,hM5,gY,hs5⟩:=(xX.own ((ai.refl [] w4).drew) (by simp)).update gI iw (x.s.g,x.s.n) (.pointer (some ⟨n,0,none⟩));simp only[dm,List.length_nil]at hu hlen;have aF:ai [m] w4 w5:=(ai.refl [m] w4).drew.trans gY;have hml:=xX.lt;have iZ:=kH.own aF (by simpa using yx);have hF5:nP w5 n rr a x.s.g x.s.n false:=by
    have hm3:=eO.lt;exact⟨aF.heap hF.1 (by simp;omega),aF.heap hF.2 (by simp;omega)⟩
   have z9:=frozen_of_row _ b 9 _ _ iZ;have b9:=(bK iZ).2.2.2.2.2.2.2.2.2.1;clear hlk hlk2 f0 f1 q0 cN;go_wp2_with fail
   go_region
   all_goals
    go_wp2_with fail
    go_ret
    have bI:ai [b] w5 (w5.setCell ⟨b,9,none⟩ (.pointer (some ⟨n,0,none⟩))):=(ai.refl _ _).setCell (.inl (by simp)) _;have Gm:aV (w5.setCell ⟨b,9,none⟩ (.pointer (some ⟨n,0,none⟩))) b {x with vg:=x.s.g,node:=.pointer (some ⟨n,0,none⟩)}:=by
     have:=heap_setCell_same _ b 9 _ _ (.pointer (some ⟨n,0,none⟩)) iZ;simpa[aV]using this
    exact⟨rfl,n,rr,a,by omega,by omega,hnr,Gm,⟨bI.heap hF5.1 (by simp;omega),bI.heap hF5.2 (by simp;omega)⟩,hM5.own bI (by simpa using yx.symm),
     (((hO3.mono (by simp)).trans lq.nil).trans (aF.mono (by simp))).trans (bI.mono (by simp))⟩
end Go.Proofs.YtedcakchekaemaaGreatDoor
