/- SparkAlone: what is known depends on the entries alone, and a node on its own entries alone: plain law and walk, for messages whose topics hold at most 1048576 bytes. -/
import Derived.Test.YtedcakchekaemaaGreatDoorMp37
set_option maxRecDepth 100000
set_option maxHeartbeats 16000000
set_option linter.all false
namespace Go.Proofs.YtedcakchekaemaaGreatDoor
open Go.RowKit
variable [Kd]
structure rW (S S':SP):Prop where
 nodes:S'.nodes=S.nodes
 hs:S'.hs=S.hs
 bi:S'.bi=S.bi
def TP(v v':Vd):Prop:=v'.code=v.code/\v'.g=v.g/\v'.n=v.n
theorem FZ{S S':SP}(h:rW S S')(k:Rk):(dV S k=none/\dV S' k=none)\/ ∃p p',dV S k=some p/\dV S' k=some p'/\p'.2=p.2/\rW p.1 p'.1:=by
 unfold dV;rw[h.nodes];cases aQ S.nodes k with
 |some e=>exact .inr ⟨_,_,rfl,rfl,rfl,h⟩
 |none=>
  simp only;split
  ·exact .inl ⟨rfl,rfl⟩
  ·exact .inr ⟨_,_,rfl,rfl,rfl,⟨rfl,h.hs,h.bi⟩⟩
theorem F3{S S':SP}(h:rW S S')(s:jv)(a a':Int)(t x:ByteArray)(e:EN):TP (gQ S s a t x e).1 (gQ S' s a' t x e).1/\rW (gQ S s a t x e).2 (gQ S' s a' t x e).2:=by
 unfold gQ;rw[h.nodes,h.bi];split
 ·exact⟨⟨rfl,rfl,rfl⟩,rfl,h.hs,rfl⟩
 split
 ·exact⟨⟨rfl,rfl,rfl⟩,rfl,h.hs,rfl⟩
 ·exact⟨⟨rfl,rfl,rfl⟩,rfl,h.hs,rfl⟩
theorem F4{S S':SP}(h:rW S S')(a a':Int)(t x:ByteArray):TP (aH S a t x).1 (aH S' a' t x).1/\rW (aH S a t x).2 (aH S' a' t x).2:=by
 unfold aH;split
 ·exact⟨⟨rfl,rfl,rfl⟩,h⟩
 split
 ·exact⟨⟨by rw[h.hs],rfl,rfl⟩,h.nodes,by simp only;rw[h.hs],h.bi⟩
 ·rcases FZ h ((bQ t).g,(bQ t).n)with⟨h1,h2⟩|⟨p,p',h1,h2,h3,h4⟩
  ·rw[h1,h2];exact⟨⟨rfl,rfl,rfl⟩,h⟩
  ·rw[h1,h2]
   simp only;rw[h3];exact F3 h4 _ _ _ _ _ _
structure kN (k:Rk) (S c:SP):Prop where
 one: ∀p∈c.nodes,p.1=k
 nd:(c.nodes.map (·.1)).Nodup
 get:(aQ S.nodes k=none/\8<=S.nodes.length)\/aQ c.nodes k=aQ S.nodes k
theorem JO(k:Rk):kN k ⟨[],[],[],[],0⟩ ⟨[],[],[],[],0⟩:=⟨by simp,by simp,.inr rfl⟩
theorem qz(S:SP)(a:Int)(t x:ByteArray):
  ((aH S a t x).2.nodes=S.nodes/\((aH S a t x).1.g=ax\/(dV S ((aH S a t x).1.g,(aH S a t x).1.n)=none/\(aH S a t x).1.code=8)))\/
  ∃p,dV S ((aH S a t x).1.g,(aH S a t x).1.n)=some p/\(aH S a t x).1.code=(fH p.2 (bQ t).k (bQ t).d x).1/\(aH S a t x).2.nodes=bX p.1.nodes ((aH S a t x).1.g,(aH S a t x).1.n) (fH p.2 (bQ t).k (bQ t).d x).2:=by
 unfold aH;split
 ·exact .inl ⟨rfl,.inl rfl⟩
 split
 ·exact .inl ⟨rfl,.inl rfl⟩
 ·split
  ·rename_i h;exact .inl ⟨rfl,.inr ⟨h,rfl⟩⟩
  ·rename_i p h
   right
   unfold gQ;split
   ·rename_i h1;exact⟨p,h,h1.symm,rfl⟩
   split
   ·exact⟨p,h,rfl,rfl⟩
   ·exact⟨p,h,rfl,rfl⟩
theorem F5{S:SP}{a:Int}{t x:ByteArray}(h:(aH S a t x).1.g≠ax):sH (bQ t).k≠false/\(bQ t).k≠9/\(aH S a t x).1.g=(bQ t).g/\(aH S a t x).1.n=(bQ t).n:=by
 unfold aH at h⊢;split
 ·rename_i h1;rw[if_pos h1]at h;exact absurd rfl h
 rename_i h1
 rw[if_neg h1]at h;split
 ·rename_i h2;rw[if_pos h2]at h;exact absurd rfl h
 rename_i h2
 refine⟨h1,h2,?_⟩;split
 ·exact⟨rfl,rfl⟩
 ·unfold gQ
  split
  ·exact⟨rfl,rfl⟩
  split<;>exact⟨rfl,rfl⟩
theorem F6{α:Type}(k:Rk)(v:α): ∀l:List (Rk×α),l.length<=(bX l k v).length
 | []=>by simp[bX]
 |p::r=>by
  unfold bX;split
  ·simp
  ·simp[F6 k v r]
theorem jE{S:SP}{k:Rk}{p:SP×EN}(h:dV S k=some p):(p.1.nodes=S.nodes/\aQ S.nodes k=some p.2)\/(p.1.nodes=S.nodes++[(k,qH)]/\aQ S.nodes k=none/\p.2=qH/\S.nodes.length<8):=by
 rcases kE h with⟨h1,h2⟩|⟨h1,⟨_,_,h3⟩,rfl⟩
 ·exact .inl ⟨by rw[h2],h1⟩
 ·exact .inr ⟨rfl,h1,rfl,h3⟩
theorem Om{α:Type}(l:List (Rk×α))(k j:Rk)(v:α)(h:j≠k):aQ (l++[(k,v)]) j=aQ l j:=by
 unfold aQ;rw[List.find?_append];have:([(k,v)]:List (Rk×α)).find? (fun p=>p.1==j)=none:=by simp;exact fun e=>h e.symm
 rw[this];cases List.find? (fun p=>p.1==j) l<;>rfl
theorem kN.other{k:Rk}{S c:SP}(h:kN k S c){a:Int}{t x:ByteArray}(hk:((aH S a t x).1.g,(aH S a t x).1.n)≠k):kN k (aH S a t x).2 c:=by
 refine⟨h.one,h.nd,?_⟩;rcases qz S a t x with⟨e,_⟩|⟨p,hp,_,e⟩
 ·rw[e];exact h.get
 ·rw[e,qm,if_neg (fun e=>hk e.symm)]
  have hl:=F6 ((aH S a t x).1.g,(aH S a t x).1.n) (fH p.2 (bQ t).k (bQ t).d x).2 p.1.nodes;have hg:aQ p.1.nodes k=aQ S.nodes k/\S.nodes.length<=p.1.nodes.length:=by
   rcases jE hp with⟨e1,_⟩|⟨e1,_⟩
   ·rw[e1];exact⟨rfl,Nat.le_refl _⟩
   ·rw[e1];exact⟨Om _ _ _ _ (fun e=>hk e.symm),by simp⟩
  rw[hg.1];rcases h.get with⟨h1,h2⟩|h1
  ·exact .inl ⟨h1,by omega⟩
  ·exact .inr h1
theorem kN.own{k:Rk}{S c:SP}(h:kN k S c)(hg:k.1.toList.isEmpty=false)(hn:k.2.toList.isEmpty=false){a b:Int}{t x:ByteArray}(hk:((aH S a t x).1.g,(aH S a t x).1.n)=k):
  kN k (aH S a t x).2 (aH c b t x).2/\((aH c b t x).1.code=(aH S a t x).1.code\/(aH S a t x).1.code=8):=by
 have hk1:(aH S a t x).1.g≠ax:=fun e=>by
  rw[<-hk]at hg;simp only at hg;rw[e,show ax.toList=[]by rw[Lib.toList_data];rfl]at hg;simp at hg
 obtain⟨s1,s2,s3,s4⟩:=F5 hk1;have hkk:((bQ t).g,(bQ t).n)=k:=by rw[<-s3,<-s4];exact hk
 have hcl:c.nodes.length<=1:=by
  have:=lK (l':=[k]) h.nd (fun y hy=>by
   obtain⟨p,hp,rfl⟩:=List.mem_map.1 hy;simp[h.one p hp])
  simpa using this
 have hcK: ∃p,dV c k=some p/\ ∀q∈p.1.nodes,q.1=k:=by
  unfold dV;cases hc:aQ c.nodes k with
  |some e=>exact⟨_,rfl,h.one⟩
  |none=>
   simp only;rw[if_neg (by simp only[hg,hn];simp;omega)];refine⟨_,rfl,fun q hq=>?_⟩;rcases List.mem_append.1 hq with hq|hq
   ·exact h.one q hq
   ·rw[List.mem_singleton]at hq;subst hq;rfl
 obtain⟨pc,hpc,hpo⟩:=hcK;have hck:((aH c b t x).1.g,(aH c b t x).1.n)=k:=by
  have:(aH c b t x).1.g=(bQ t).g/\(aH c b t x).1.n=(bQ t).n:=by
   unfold aH;rw[if_neg s1,if_neg s2,hkk,hpc];unfold gQ;simp only;split
   ·exact⟨rfl,rfl⟩
   split<;>exact⟨rfl,rfl⟩
  rw[this.1,this.2,hkk]
 have hc2:(aH c b t x).1.code=(fH pc.2 (bQ t).k (bQ t).d x).1/\(aH c b t x).2.nodes=bX pc.1.nodes k (fH pc.2 (bQ t).k (bQ t).d x).2:=by
  rcases qz c b t x with⟨_,h1⟩|⟨p,hp,h1,h2⟩
  ·exfalso
   rcases h1 with h1|⟨h1,_⟩
   ·have:=(Prod.mk.inj hck).1
    rw[h1]at this;exact hk1 ((Prod.mk.inj hk).1.trans this.symm)
   ·rw[hck,hpc]at h1;cases h1
  ·rw[hck,hpc]at hp
   cases hp;rw[hck]at h2;exact⟨h1,h2⟩
 have hone: ∀q∈(aH c b t x).2.nodes,q.1=k:=fun q hq=>by
  rw[hc2.2]at hq;rcases sS hq with rfl|hq
  ·rfl
  ·exact hpo q hq
 have hnd:((aH c b t x).2.nodes.map (·.1)).Nodup:=by
  rw[hc2.2];have hpn:(pc.1.nodes.map (·.1)).Nodup/\k∈pc.1.nodes.map (·.1):=by
   rcases jE hpc with⟨e1,e2⟩|⟨e1,e2,_⟩
   ·rw[e1];exact⟨h.nd,List.mem_map.2 ⟨_,sU e2,rfl⟩⟩
   ·rw[e1,List.map_append,List.nodup_append]
    exact⟨⟨h.nd,by simp,fun u hu v hv e=>by simp at hv;subst hv;subst e;exact qj e2 hu⟩,by simp⟩
  rw[mh hpn.2];exact hpn.1
 rcases qz S a t x with⟨e,h1⟩|⟨p,hp,h1,h2⟩
 ·rcases h1 with h1|⟨h1,h8⟩
  ·exact absurd h1 hk1
  ·rw[hk]at h1
   have hfull:aQ S.nodes k=none/\8<=S.nodes.length:=by
    unfold dV at h1;cases hS:aQ S.nodes k with
    |some e=>rw[hS]at h1;cases h1
    |none=>
     rw[hS]at h1;simp only at h1;split at h1
     ·rename_i hx
      simp only[hg,hn]at hx;exact⟨rfl,by simpa using hx⟩
     ·cases h1
   exact⟨⟨hone,hnd,.inl (by rw[e];exact hfull)⟩,.inr h8⟩
 ·rw[hk]at hp h2
  have hpe:pc.2=p.2:=by
   rcases h.get with⟨g1,g2⟩|g1
   ·rcases jE hp with⟨_,e2⟩|⟨_,_,_,e2⟩
    ·rw[g1]at e2;cases e2
    ·omega
   ·rcases jE hp with⟨_,e2⟩|⟨_,e2,e3,_⟩<;>rcases jE hpc with⟨_,f2⟩|⟨_,f2,f3,_⟩
    ·rw[g1,e2]at f2;exact(Option.some.inj f2).symm
    ·rw[g1,e2]at f2;cases f2
    ·rw[g1,e2]at f2;cases f2
    ·rw[e3,f3]
  refine⟨⟨hone,hnd,.inr ?_⟩,.inl (by rw[hc2.1,h1,hpe])⟩;rw[hc2.2,h2,qm,qm,if_pos rfl,if_pos rfl,hpe]
end Go.Proofs.YtedcakchekaemaaGreatDoor
namespace Go.Proofs.YtedcakchekaemaaGreatDoor
open Go.RowKit
theorem Oo(nm:ByteArray)(on:Bool)(N:Nat)(L:List bJ)(hN:N=L.length)(a1:Option Addr)(c1:Nat)(a2:Option Addr)(c2:Nat)(w:World)(h1:bB w a1 L)(h2:bB w a2 L)(hl:N<=32):
  Calls Tryz.prog 33 #[.agg #[.string nm,.bool on,.slice a1 N c1],.agg #[.string nm,.bool on,.slice a2 N c2]] w fun e w'=>e=.returned (.bool true)/\ai [] w w':=by
 have hA1:ai [] w (w.alloc (.cells #[.string nm,.bool on,.slice a1 N c1] 46)):=(ai.refl _ _).alloc _;have hA2:ai [] w ((w.alloc (.cells #[.string nm,.bool on,.slice a1 N c1] 46)).alloc (.cells #[.string nm,.bool on,.slice a2 N c2] 46)):=hA1.alloc _;have r1:((w.alloc (.cells #[.string nm,.bool on,.slice a1 N c1] 46)).alloc (.cells #[.string nm,.bool on,.slice a2 N c2] 46)).heap[w.heap.size]?=some (.cells #[.string nm,.bool on,.slice a1 N c1] 46 (0,0)):=
  ((ai.refl [] _).alloc _).heap (heap_alloc_new w _) (by simp)
 have r2:((w.alloc (.cells #[.string nm,.bool on,.slice a1 N c1] 46)).alloc (.cells #[.string nm,.bool on,.slice a2 N c2] 46)).heap[w.heap.size+1]?=some (.cells #[.string nm,.bool on,.slice a2 N c2] 46 (0,0)):=by
  have:=heap_alloc_new (w.alloc (.cells #[.string nm,.bool on,.slice a1 N c1] 46)) (.cells #[.string nm,.bool on,.slice a2 N c2] 46);simpa using this
 have hB:=fun W (ho:ai [] ((w.alloc (.cells #[.string nm,.bool on,.slice a1 N c1] 46)).alloc (.cells #[.string nm,.bool on,.slice a2 N c2] 46)) W)=>And.intro (VA (ho.heap r1 (by simp))).1 (VA (ho.heap r2 (by simp))).1
 obtain⟨⟨p0,p1,p2⟩,q0,q1,q2⟩:=hB _ (ai.refl _ _);have hs:(nm.toList==nm.toList)=true:=by simp
 have ho:(on==on)=true:=by simp
 have hI1:=fun W (ho:ai [] w W)=>h1.nil' ho
 have hI2:=fun W (ho:ai [] w W)=>h2.nil' ho
 replace hI1:=af hI1;replace hI2:=af hI2;replace hB:=af hB;replace hA2:=af hA2;replace hN:=af hN;clear h1 h2 r1 r2 hA1;go_enter Tryz.func33,Tryz.ntmps33
 go_wp2_with fail
 go_loopg[5] N (fun m s5 wr=> ∃k:Nat,k<=N/\m=N-k/\s5=.int .i64 k/\Aside (ai [] ((w.alloc (.cells #[.string nm,.bool on,.slice a1 N c1] 46)).alloc (.cells #[.string nm,.bool on,.slice a2 N c2] 46)) wr))
 case atStart=>exact⟨0,by omega,by omega,rfl,ai.refl _ _⟩
 case round=>
  obtain⟨k,hk1,rfl,rfl,hO⟩:=hrel;obtain⟨⟨x0,x1,x2⟩,y0,y1,y2⟩:=hB.out _ hO;by_cases hlt:k<N
  ·obtain⟨b1,o1,rfl,hb1,_,hc1⟩:=(hI1.out _ (hA2.out.trans hO)).item (show k<L.length by have:=hN.out;omega)
   obtain⟨b2,o2,rfl,hb2,_,hc2⟩:=(hI2.out _ (hA2.out.trans hO)).item (show k<L.length by have:=hN.out;omega);have hq:=fun W=>xD (dU L k) (dU L k) W
   rw[AY]at hq;generalize dU L k=x at hc1 hc2 hq;obtain⟨Y5,hs',al',ty',nu',vk',vn',vs'⟩:=x;obtain⟨d0,d1,d2,d3,d4,d5,d6,d7⟩:=Vu.all hc1;obtain⟨e0,e1,e2,e3,e4,e5,e6,e7⟩:=Vu.all hc2;have q0:(0:Int)<=k:=by omega
   have q1:(k:Int)<N:=by omega
   unfold bJ.val bJ.cells at hq;replace hO:=af hO;clear hc1 hc2 hb1 hb2;go_wp2_with fail
   go_quiet(fail)
   go_wp2_with fail
   go_roundg(N-(k+1))
   case measure=>omega
   case rel=>exact⟨k+1,by omega,rfl,by go_num,hO.out.drewN _⟩
  ·replace hO:=af hO
   go_wp2_with fail
   go_ret
   exact⟨rfl,hA2.out.trans hO.out⟩
structure YW (w:World) (its:List bJ) (dev:List bS) (a:Option Addr) (va:Option Addr) (V:List DV):Prop where
 itsAt:bB w a its
 few:its.length<=32
 rows:bY xS 3 (fun _=>True) w va V
 len:V.length=dev.length
 len4:dev.length<=4
 devs: ∀(i:Nat) v x,V[i]?=some v->dev[i]?=some x->v.name=x.name/\v.on=x.on/\v.n=x.items.length/\x.items.length<=32/\bB w v.a x.items
theorem YW.nil'{w w':World}{its:List bJ}{dev:List bS}{a va:Option Addr}{V:List DV}(h:YW w its dev a va V)(ho:ai [] w w'):YW w' its dev a va V:=
 ⟨h.itsAt.nil' ho,h.few,h.rows.nil' ho,h.len,h.len4,fun i v x hv hx=>by
  obtain⟨h1,h2,h3,h4,h5⟩:=h.devs i v x hv hx;exact⟨h1,h2,h3,h4,h5.nil' ho⟩⟩
theorem aai{B:Nat}{w:World}{s:EN}{a:Option Addr}{cap:Nat}{va:Option Addr}{vn vc:Nat}{V:List DV}(h1:aM B w a cap s.items)(h2:Sl 46 xS 3 B w (.slice va vn vc) V)(h3:DVs B w V s.dev)(hf:s.items.length<=32)(hd:s.dev.length<=4)(hx: ∀x∈s.dev,x.items.length<=32):
  YW w s.items s.dev a va V/\vn=s.dev.length:=by
 have hlen:=h3.1;refine⟨⟨h1.at_ (by omega),hf,?_,hlen,hd,fun i v x hv hx'=>?_⟩,?_⟩
 ·rcases h2.form with⟨h4,h5⟩|⟨gb,cp,h4,_,hR⟩
  ·cases h4;rw[h5];exact bY.empty _ _
  ·cases h4;exact bY.of_row hR EX (by omega) (fun _ _=>trivial)
 ·obtain⟨q1,q2,q3,q4⟩:=h3.2 i v x hv hx'
  have:=hx x (List.mem_of_getElem? hx');exact⟨q1,q2,q3,this,q4.at_ (by omega)⟩
 ·rcases h2.form with⟨h4,h5⟩|⟨gb,cp,h4,_,hR⟩
  ·cases h4;rw[<-hlen,h5];rfl
  ·cases h4;exact hlen
theorem YX{w:World}{its:List bJ}{dev:List bS}{a va:Option Addr}{V:List DV}(h:YW w its dev a va V){k:Nat}(hk:k<dev.length){x:bS}(hx:dev[k]?=some x):
  ∃b o a1 c1,va=some ⟨b,o,none⟩/\w.cell? ⟨b,o+k*3,none⟩=some (.string x.name)/\w.cell? ⟨b,o+k*3+1,none⟩=some (.bool x.on)/\w.cell? ⟨b,o+k*3+2,none⟩=some (.slice a1 x.items.length c1)/\x.items.length<=32/\bB w a1 x.items:=by
 have hv:k<V.length:=by rw[h.len];exact hk
 have hV:=List.getElem?_eq_getElem hv;obtain⟨q1,q2,q3,q4,q5⟩:=h.devs k _ x hV hx;obtain⟨b,o,e,_,hc⟩:=h.rows.2 (by omega);have hc':=(hc k _ hV).2;refine⟨b,o,(V[k]).a,(V[k]).cap,e,?_,?_,?_,q4,q5⟩
 ·have:=hc' 0 _ rfl
  rw[q1]at this;simpa using this
 ·have:=hc' 1 _ rfl
  rw[q2]at this;exact this
 ·have:=hc' 2 _ rfl
  rw[q3]at this;exact this
theorem Oq(g nm:ByteArray)(on pe:Bool)(bd nx:Int)(its:List bJ)(dev:List bS)(il dl:Nat)(hil:il=its.length)(hdl:dl=dev.length)(a1 YE a2 K4:Option Addr)(c1 Zh c2 vc2:Nat)(V1 V2:List DV)(w:World)(h1:YW w its dev a1 YE V1)(h2:YW w its dev a2 K4 V2):
  Calls Tryz.prog 13 #[.agg #[.string g,.string nm,.bool on,.int .i64 bd,.int .i64 nx,.bool pe,.slice a1 il c1,.slice YE dl Zh],.agg #[.string g,.string nm,.bool on,.int .i64 bd,.int .i64 nx,.bool pe,.slice a2 il c2,.slice K4 dl vc2]] w fun e w'=>e=.returned (.bool true)/\ai [] w w':=by
 have hA1:ai [] w (w.alloc (.cells #[.string g,.string nm,.bool on,.int .i64 bd,.int .i64 nx,.bool pe,.slice a1 il c1,.slice YE dl Zh] 38)):=(ai.refl _ _).alloc _;have hA2:ai [] w ((w.alloc (.cells #[.string g,.string nm,.bool on,.int .i64 bd,.int .i64 nx,.bool pe,.slice a1 il c1,.slice YE dl Zh] 38)).alloc (.cells #[.string g,.string nm,.bool on,.int .i64 bd,.int .i64 nx,.bool pe,.slice a2 il c2,.slice K4 dl vc2] 38)):=hA1.alloc _;have r1:((w.alloc (.cells #[.string g,.string nm,.bool on,.int .i64 bd,.int .i64 nx,.bool pe,.slice a1 il c1,.slice YE dl Zh] 38)).alloc (.cells #[.string g,.string nm,.bool on,.int .i64 bd,.int .i64 nx,.bool pe,.slice a2 il c2,.slice K4 dl vc2] 38)).heap[w.heap.size]?=some (.cells #[.string g,.string nm,.bool on,.int .i64 bd,.int .i64 nx,.bool pe,.slice a1 il c1,.slice YE dl Zh] 38 (0,0)):=
  ((ai.refl [] _).alloc _).heap (heap_alloc_new w _) (by simp)
 have r2:((w.alloc (.cells #[.string g,.string nm,.bool on,.int .i64 bd,.int .i64 nx,.bool pe,.slice a1 il c1,.slice YE dl Zh] 38)).alloc (.cells #[.string g,.string nm,.bool on,.int .i64 bd,.int .i64 nx,.bool pe,.slice a2 il c2,.slice K4 dl vc2] 38)).heap[w.heap.size+1]?=some (.cells #[.string g,.string nm,.bool on,.int .i64 bd,.int .i64 nx,.bool pe,.slice a2 il c2,.slice K4 dl vc2] 38 (0,0)):=by
  have:=heap_alloc_new (w.alloc (.cells #[.string g,.string nm,.bool on,.int .i64 bd,.int .i64 nx,.bool pe,.slice a1 il c1,.slice YE dl Zh] 38)) (.cells #[.string g,.string nm,.bool on,.int .i64 bd,.int .i64 nx,.bool pe,.slice a2 il c2,.slice K4 dl vc2] 38);simpa using this
 generalize hW0:(w.alloc (.cells #[.string g,.string nm,.bool on,.int .i64 bd,.int .i64 nx,.bool pe,.slice a1 il c1,.slice YE dl Zh] 38)).alloc (.cells #[.string g,.string nm,.bool on,.int .i64 bd,.int .i64 nx,.bool pe,.slice a2 il c2,.slice K4 dl vc2] 38)=W0 at*;have hB:=fun W (ho:ai [] W0 W)=>And.intro (LW (ho.heap r1 (by simp))).1 (LW (ho.heap r2 (by simp))).1
 obtain⟨⟨p0,p1,p2,p3,p4,p5,p6,p7⟩,q0,q1,q2,q3,q4,q5,q6,q7⟩:=hB _ (ai.refl _ _);have hs0:(g.toList==g.toList)=true:=by simp
 have hs:(nm.toList==nm.toList)=true:=by simp
 have ho:(on==on)=true:=by simp
 have hp:(pe==pe)=true:=by simp
 have hI1:=fun W (ho:ai [] w W)=>h1.nil' ho
 have hI2:=fun W (ho:ai [] w W)=>h2.nil' ho
 have hl4:dl<=4:=by rw[hdl];exact h1.len4
 have cI:=fun W (ho:ai [] w W)=>LX a1 its c1 a2 its c2 W (h1.nil' ho).itsAt (h2.nil' ho).itsAt
 rw[Eg,<-hil]at cI;have cI0:=cI _ hA2;rw[<-hW0]at p0 p1 p2 p3 p4 p5 p6 p7 q0 q1 q2 q3 q4 q5 q6 q7 cI0;have cD:=fun W (x:bS) a c a' c' (h1:bB W a x.items) (h2:bB W a' x.items) (hl:x.items.length<=32)=>Oo x.name x.on x.items.length x.items rfl a c a' c' W h1 h2 hl
 replace hW0:=af hW0;replace cD:=af cD;replace hI1:=af hI1;replace hI2:=af hI2;replace hB:=af hB;replace hA2:=af hA2;replace hil:=af hil;replace hdl:=af hdl;replace cI0:=af cI0;clear h1 h2 r1 r2 hA1 cI;go_enter Tryz.func13,Tryz.ntmps13
 go_wp2_with(go_at_call 32;(with_reducible refine cI0.out.mono ?_);rintro e w3 ⟨rfl,hO3⟩;rw[hW0.out]at hO3;obtain⟨⟨x0,x1,x2,x3,x4,x5,x6,x7⟩,y0,y1,y2,y3,y4,y5,y6,y7⟩:=hB.out _ hO3;replace hO3:=af hO3)
 go_loopg[5] dl (fun m s5 wr=> ∃k:Nat,k<=dl/\m=dl-k/\s5=.int .i64 k/\Aside (ai [] W0 wr))
 case atStart=>exact⟨0,by omega,by omega,rfl,hO3.out⟩
 case round=>
  obtain⟨k,hk1,rfl,rfl,hO⟩:=hrel;clear p0 p1 p2 p3 p4 p5 p6 p7 q0 q1 q2 q3 q4 q5 q6 q7 x0 x1 x2 x3 x4 x5 x6 x7 y0 y1 y2 y3 y4 y5 y6 y7;obtain⟨⟨x0,x1,x2,x3,x4,x5,x6,x7⟩,y0,y1,y2,y3,y4,y5,y6,y7⟩:=hB.out _ hO;by_cases hlt:k<dl
  ·have hkd:k<dev.length:=by rw[<-hdl.out];exact hlt
   obtain⟨b1,o1,d1,e1,rfl,f0,f1,f2,hl,hi1⟩:=YX (hI1.out _ (hA2.out.trans hO)) hkd (List.getElem?_eq_getElem hkd);obtain⟨b2,o2,d2,e2,rfl,g0,g1,g2,_,hi2⟩:=YX (hI2.out _ (hA2.out.trans hO)) hkd (List.getElem?_eq_getElem hkd);have cD1:=cD.out wr.drew dev[k] d1 e1 d2 e2 (hi1.nil' (ai.refl _ _).drew) (hi2.nil' (ai.refl _ _).drew) hl;generalize dev[k]=x at*;replace cD1:=af cD1;have q0:(0:Int)<=k:=by omega
   have q1:(k:Int)<dl:=by omega
   replace hO:=af hO;clear hi1 hi2;go_wp2_with fail
   go_region_with((go_at_call 33;(with_reducible refine cD1.out.mono ?_);rintro e w5 ⟨rfl,aF⟩;replace aF:=af (hO.out.drew.trans aF)))
   all_goals
    go_wp2_with fail
    go_roundg(dl-(k+1))
    case measure=>omega
    case rel=>exact⟨k+1,by omega,rfl,by go_num,aF.out⟩
  ·replace hO:=af hO
   go_wp2_with fail
   go_ret
   exact⟨rfl,hA2.out.trans hO.out⟩
end Go.Proofs.YtedcakchekaemaaGreatDoor
namespace Go.Proofs.YtedcakchekaemaaGreatDoor
open Go.RowKit
variable [Kd]
theorem iY.vat{B:Nat}{w:World}{x:gN}(h:iY B w x)(hf:x.s.items.length<=32)(hd:x.s.dev.length<=4)(hx: ∀y∈x.s.dev,y.items.length<=32):YW w x.s.items x.s.dev x.a x.va x.V/\x.V.length=x.s.dev.length:=aai h.out h.sl h.dvs hf hd hx
theorem BN: ∀{l l':List (Rk×EN)},l.Perm l'->l.Pairwise (fun x y=>dH x.1 y.1)->l'.Pairwise (fun x y=>dH x.1 y.1)->l=l'
 | [],l',hp,_,_=>(List.Perm.nil_eq hp)
 |x::r,[],hp,_,_=>absurd hp.length_eq (by simp)
 |x::r,y::r',hp,h1,h2=>by
  rw[List.pairwise_cons]at h1 h2;have hx:x∈y::r':=hp.subset (List.mem_cons_self ..);have hy:y∈x::r:=hp.symm.subset (List.mem_cons_self ..);have hxy:x=y:=by
   rcases List.mem_cons.1 hx with rfl|hx'
   ·rfl
   ·rcases List.mem_cons.1 hy with rfl|hy'
    ·rfl
    ·exact absurd (jC (h2.1 x hx') (h1.1 y hy')) (nX _)
  subst hxy;rw[BN (List.perm_cons x |>.1 hp) h1.2 h2.2]
theorem F7{TV TV':List gN}{S S':SP}(h:(TV.map gN.say).Perm S.nodes)(h':(TV'.map gN.say).Perm S'.nodes)(hn:S'.nodes=S.nodes)(hs:TV.Pairwise fun x y=>dH x.key y.key)(hs':TV'.Pairwise fun x y=>dH x.key y.key):TV.map gN.say=TV'.map gN.say:=
 BN (h.trans (by rw[<-hn];exact h'.symm)) (List.pairwise_map.2 hs) (List.pairwise_map.2 hs')
def Few(s:EN):Prop:=s.items.length<=32/\s.dev.length<=4/\ ∀y∈s.dev,y.items.length<=32
theorem Ot{w:World}{K:aW}(H:bE w K): ∀p∈K.sp.nodes,Few p.2:=fun p hp=>by
 unfold aW.sp at hp;obtain⟨x,hx,rfl⟩:=List.mem_map.1 hp;have h:=H.eds x hx;refine⟨h.few.1,h.few.2.2,fun y hy=>?_⟩;obtain⟨i,hi,rfl⟩:=List.mem_iff_getElem.1 hy;have hd:i<x.L.ds.length:=by rw[<-h.len];exact hi
 exact(h.devs i _ _ (List.getElem?_eq_getElem hd) (List.getElem?_eq_getElem hi)).2.2.2
def gN.val(x:gN):Value:=.agg #[.string x.g,.string x.nm,.bool x.s.online,.int .i64 (YP x.s),.int .i64 (vM x.s),.bool x.s.pending,.slice x.a x.s.items.length x.cap,.slice x.va x.V.length x.vc]
theorem BO{B B':Nat}{w:World}{x y:gN}(hx:iY B w x)(hy:iY B' w y)(he:x.say=y.say)(hf:Few x.s):
  Calls Tryz.prog 13 #[x.val,y.val] w fun e w'=>e=.returned (.bool true)/\ai [] w w':=by
 have hxl:=hx.dvs.1;have hyl:=hy.dvs.1;obtain⟨f1,f2,f3⟩:=hf;have v1:=(hx.vat f1 f2 f3).1;obtain⟨g,nm,s,a,cap,va,vc,V⟩:=x;obtain⟨g',Y5,s',a',cap',va',vc',V'⟩:=y;unfold gN.say gN.key at he;simp only[Prod.mk.injEq]at he;obtain⟨⟨rfl,rfl⟩,rfl⟩:=he;have v2:=(hy.vat f1 f2 f3).1;unfold gN.val;simp only at*;rw[hyl,hxl];exact Oq g nm s.online s.pending (YP s) (vM s) s.items s.dev s.items.length s.dev.length rfl rfl a va a' va' cap vc cap' vc' V V' w v1 v2
theorem afd(x0 x1:ByteArray)(w:World):(binOp .eql 43 (.agg #[.string x0,.string x1]) (.agg #[.string x0,.string x1])).run Tryz.prog w=.ok (.bool true) w:=by
 rw[run_eql_struct];go_simp
theorem acf(x0 x1:ByteArray)(w:World):(binOp .neq 43 (.agg #[.string x0,.string x1]) (.agg #[.string x0,.string x1])).run Tryz.prog w=.ok (.bool false) w:=by
 have h:=afd x0 x1 w;rw[run_eql_struct]at h;rw[run_neq_struct];generalize(Op.equalIn 10000 43 (.agg #[.string x0,.string x1]) (.agg #[.string x0,.string x1])).run Tryz.prog w=r at h⊢;cases r with
 |ok b w'=>simp[Result.andThen]at h⊢;exact h
 |halt e w'=>simp[Result.andThen]at h
theorem F8{B B':Nat}{w:World}{v v':Value}{L:List (ByteArray×ByteArray)}(h:Sl 43 lU 2 B w v L)(h':Sl 43 lU 2 B' w v' L)(hl:L.length<=40):
  Calls Tryz.prog 14 #[v,v'] w fun e w'=>e=.returned (.bool true)/\ai [] w w':=by
 obtain⟨a,c,rfl⟩:=h.sl;obtain⟨a',c',rfl⟩:=h'.sl;go_enter Tryz.func14,Tryz.ntmps14
 go_wp2_with fail
 go_loopg[5] L.length (fun g s5 wr=> ∃j:Nat,j<=L.length/\g=L.length-j/\s5=.int .i64 j/\Aside (ai [] w wr))
 case atStart=>exact⟨0,by omega,by omega,rfl,ai.refl _ _⟩
 case round=>
  obtain⟨j,hj,rfl,rfl,hO⟩:=hrel;by_cases hjl:j<L.length
  ·obtain⟨g1,rfl,hc1⟩:=qx h hjl
   obtain⟨g2,rfl,hc2⟩:=qx h' hjl;obtain⟨d0,d1⟩:=hc1 wr hO;obtain⟨e0,e1⟩:=hc2 wr hO;have hn:=fun W=>acf L[j].1 L[j].2 W
   generalize L[j].1=x0 at*;generalize L[j].2=x1 at*;replace hO:=af hO;clear hc1 hc2;go_wp2_with fail
   go_quiet(fail)
   go_wp2_with fail
   go_roundg(L.length-(j+1))
   case measure=>omega
   case rel=>exact⟨j+1,by omega,rfl,by go_num,hO.out.drewN _⟩
  ·replace hO:=af hO
   go_wp2_with fail
   go_ret
   exact⟨rfl,hO.out⟩
def O8(A B:List Nat):Prop:= ∀z∈A,z∉B
theorem O8.symm{A B:List Nat}(h:O8 A B):O8 B A:=fun z hz hx=>h z hx hz
structure zW (w0 wr:World) (n m:Nat) (A B C:aW):Prop where
 a:tC w0 wr n A
 b:tC w0 wr n B
 c:tC w0 wr m C
 ab:O8 A.feet B.feet
 ac:O8 A.feet C.feet
 bc:O8 B.feet C.feet
theorem jc{w0 wr w2:World}{n m:Nat}{A A' B:aW}(hA:tC w0 wr n A)(hB:tC w0 wr m B)(ho:ai A.feet wr w2)(hf: ∀z∈A'.feet,z∈A.feet\/wr.heap.size<=z)(hab:O8 A.feet B.feet):tC w0 w2 m B/\O8 A'.feet B.feet:=by
 refine⟨hB.ow ho (fun z hz hx=>hab z hx hz) (fun z hz=>(hA.lt z hz).1),fun z hz hx=>?_⟩;rcases hf z hz with h|h
 ·exact hab z h hx
 ·have:=(hB.lt z hx).2;omega
theorem Di{w0 wr w2:World}{m:Nat}{A B:aW}(hB:tC w0 wr m B)(ho:ai [] wr w2)(hf: ∀z∈A.feet,wr.heap.size<=z):tC w0 w2 m B/\O8 B.feet A.feet:=
 ⟨hB.nil' ho,fun z hz hx=>by have:=(hB.lt z hz).2;have:=hf z hx;omega⟩
theorem zW.nil'{w0 wr w2:World}{n m:Nat}{A B C:aW}(H:zW w0 wr n m A B C)(ho:ai [] wr w2):zW w0 w2 n m A B C:=⟨H.a.nil' ho,H.b.nil' ho,H.c.nil' ho,H.ab,H.ac,H.bc⟩
structure Ou (w0 wr:World) (n m:Nat) (A B C:aW):Prop where
 a:tC w0 wr (n+1) A
 b:tC w0 wr n B
 c:tC w0 wr m C
 ab:O8 A.feet B.feet
 ac:O8 A.feet C.feet
 bc:O8 B.feet C.feet
theorem zW.takeA{w0 wr w2:World}{n m:Nat}{A A' B C:aW}(H:zW w0 wr n m A B C)(h:tC w0 w2 (n+1) A')(ho:ai A.feet wr w2)(hf: ∀z∈A'.feet,z∈A.feet\/wr.heap.size<=z):Ou w0 w2 n m A' B C:=
 ⟨h,(jc H.a H.b ho hf H.ab).1,(jc H.a H.c ho hf H.ac).1,(jc H.a H.b ho hf H.ab).2,(jc H.a H.c ho hf H.ac).2,H.bc⟩
theorem Ou.nil'{w0 wr w2:World}{n m:Nat}{A B C:aW}(H:Ou w0 wr n m A B C)(ho:ai [] wr w2):Ou w0 w2 n m A B C:=⟨H.a.nil' ho,H.b.nil' ho,H.c.nil' ho,H.ab,H.ac,H.bc⟩
theorem Ou.takeB{w0 wr w2:World}{n m:Nat}{A B B' C:aW}(H:Ou w0 wr n m A B C)(h:tC w0 w2 (n+1) B')(ho:ai B.feet wr w2)(hf: ∀z∈B'.feet,z∈B.feet\/wr.heap.size<=z):zW w0 w2 (n+1) m A B' C:=
 ⟨(jc H.b H.a ho hf H.ab.symm).1,h,(jc H.b H.c ho hf H.bc).1,(jc H.b H.a ho hf H.ab.symm).2.symm,H.ac,(jc H.b H.c ho hf H.bc).2⟩
theorem zW.takeC{w0 wr w2:World}{n m:Nat}{A B C C':aW}(H:zW w0 wr n m A B C)(h:tC w0 w2 (m+1) C')(ho:ai C.feet wr w2)(hf: ∀z∈C'.feet,z∈C.feet\/wr.heap.size<=z):zW w0 w2 n (m+1) A B C':=
 ⟨(jc H.c H.a ho hf H.ac.symm).1,(jc H.c H.b ho hf H.bc.symm).1,h,H.ab,(jc H.c H.a ho hf H.ac.symm).2.symm,(jc H.c H.b ho hf H.bc.symm).2.symm⟩
theorem zX{B:Nat}{w5:World}{av:Option Addr}{n cv:Nat}{TV:List gN}(h:Sl 38 rR 8 B w5 (.slice av n cv) TV){j:Nat}(hj:j<TV.length): ∃gv,av=some ⟨gv,0,none⟩/\ ∀W,ai [] w5 W->
  W.cell? ⟨gv,j*8,none⟩=some (.string TV[j].g)/\W.cell? ⟨gv,j*8+1,none⟩=some (.string TV[j].nm)/\W.cell? ⟨gv,j*8+2,none⟩=some (.bool TV[j].s.online)/\W.cell? ⟨gv,j*8+3,none⟩=some (.int .i64 (YP TV[j].s))/\
  W.cell? ⟨gv,j*8+4,none⟩=some (.int .i64 (vM TV[j].s))/\W.cell? ⟨gv,j*8+5,none⟩=some (.bool TV[j].s.pending)/\W.cell? ⟨gv,j*8+6,none⟩=some (.slice TV[j].a TV[j].s.items.length TV[j].cap)/\W.cell? ⟨gv,j*8+7,none⟩=some (.slice TV[j].va TV[j].V.length TV[j].vc):=by
 rcases h.form with⟨_,h2⟩|⟨g,cap,h1,h2,hR⟩
 ·rw[h2]at hj;simp at hj
 ·cases h1
  refine⟨g,rfl,fun W ho=>?_⟩;have hc: ∀c v,(rR TV[j])[c]?=some v->W.cell? ⟨g,j*8+c,none⟩=some v:=fun c v hv=>(hR.own ho (by simp)).cell kF (List.getElem?_eq_getElem hj) hv
  exact⟨hc 0 _ rfl,hc 1 _ rfl,hc 2 _ rfl,hc 3 _ rfl,hc 4 _ rfl,hc 5 _ rfl,hc 6 _ rfl,hc 7 _ rfl⟩
def BP:Rk:=(⟨#[103]⟩,⟨#[110]⟩)
theorem K3:BP.1.toList.isEmpty=false/\BP.2.toList.isEmpty=false:=by
 refine⟨?_,?_⟩<;>(unfold BP;simp only;rw[Lib.toList_data];rfl)
theorem TQ{S c:SP}(h:kN BP S c){Tc:List gN}(hc:(Tc.map gN.say).Perm c.nodes):Tc.length<=1/\ ∀x:gN,x.say∈S.nodes->x.key=BP->(S.nodes.map (·.1)).Nodup-> ∃y,Tc=[y]/\y.say=x.say:=by
 have hcl:c.nodes.length<=1:=by
  have:=lK (l':=[BP]) h.nd (fun y hy=>by
   obtain⟨p,hp,rfl⟩:=List.mem_map.1 hy;simp[h.one p hp])
  simpa using this
 have hl:Tc.length=c.nodes.length:=by have:=hc.length_eq;simpa using this
 refine⟨by omega,fun x hx hk hnd=>?_⟩;have hget:aQ S.nodes BP=some x.s:=by
  cases hg:aQ S.nodes BP with
  |none=>exact absurd (List.mem_map.2 ⟨_,hx,hk⟩) (qj hg)
  |some e=>
   have h1:=sU hg;have h2: ∀{l:List (Rk×EN)} {a b:Rk×EN},(l.map (·.1)).Nodup->a∈l->b∈l->a.1=b.1->a=b:=by
    intro l;induction l with
    |nil=>intro a b _ ha;simp at ha
    |cons q r ih=>
     intro a b hnd ha hb hab;rw[List.map_cons,List.nodup_cons]at hnd;rcases List.mem_cons.1 ha with h1|h1<;>rcases List.mem_cons.1 hb with h2|h2
     ·rw[h1,h2]
     ·exact absurd (List.mem_map.2 ⟨b,h2,by rw[<-hab,h1]⟩) hnd.1
     ·exact absurd (List.mem_map.2 ⟨a,h1,by rw[hab,h2]⟩) hnd.1
     ·exact ih hnd.2 h1 h2 hab
   have:=h2 hnd h1 hx (by show BP=x.key;exact hk.symm);have:=(Prod.mk.inj this).2;rw[this]
 rcases h.get with⟨h1,_⟩|h1
 ·rw[hget]at h1;cases h1
 ·rw[hget]at h1
  have hm:=sU h1;have hm2:=hc.mem_iff.2 hm;obtain⟨y,hy,e⟩:=List.mem_map.1 hm2
  match Tc,hy,hl with
  | [z],hy,_=>
    simp at hy;subst hy;exact⟨_,rfl,by rw[e];unfold gN.say;rw[hk]⟩
  |_::_::_,_,hl=>simp at hl;omega
theorem JQ(a0:Option Addr)(n0 c0:Nat)(ms:Nat->xW)(a1:Option Addr)(n1 c1:Nat)(zs:Nat->Int)(w:World)(h0:Dc w a0 n0 ms)(h1:qX .i64 w a1 n1 zs)(hL:mF w)
  (hA: ∀W,ai [] w W->Calls Tryz.prog 11 #[] W fun e w'=>e=.returned (.bool true)/\ai [] W w'):
  Calls Tryz.prog 5 #[.slice a0 n0 c0,.slice a1 n1 c1] w fun e w'=>e=.returned (.bool true)/\Below w.heap.size w w':=by
 have hl0:n0<=9223372036854775807:=by have:=h0.1;simp only[maxLen]at this;omega
 have hl1:n1<=9223372036854775807:=h1.1;have cN:=af fun W (ho:ai [] w W)=>JE w W ho
 replace h0:=af h0;replace h1:=af h1.2;replace hA:=af hA;replace hL:=af hL;go_enter Tryz.func5,Tryz.ntmps5
 go_wp2_with fail
 with_reducible refine(cN.out w (ai.refl _ _)).mono ?_
 rintro e w1 ⟨A0,rfl,kI,hsa,aL,hf1⟩;replace kI:=af kI;replace hsa:=af hsa;replace aL:=af aL;replace hf1:=af hf1;generalize agD:A0.p=pa;go_wp2_with fail
 with_reducible refine(cN.out w1 kI.out.own).mono ?_
 rintro e w2 ⟨B0,rfl,hSb,hsb,hO2,hf2⟩;have q1:=af (Di kI.out hO2 hf2);replace hSb:=af hSb;replace hsb:=af hsb;replace hO2:=af hO2;replace hf2:=af hf2;generalize agE:B0.p=pb;go_wp2_with fail
 with_reducible refine(cN.out w2 hSb.out.own).mono ?_
 rintro e w3 ⟨C0,rfl,hSc,hsc,hO3,hf3⟩;have q2:=Di q1.out.1 hO3 hf3;have q3:=Di hSb.out hO3 hf3;have hJ0:Hid (zW w w3 0 0 A0 B0 C0):=af ⟨q2.1,q3.1,hSc,q1.out.2,q2.2,q3.2⟩;have Pk:Hid (rW A0.sp B0.sp):=af (by rw[hsa.out,hsb.out];exact⟨rfl,rfl,rfl⟩);have uV:Hid (kN BP A0.sp C0.sp):=af (by rw[hsa.out,hsc];exact JO _);generalize agF:C0.p=pc;clear kI hsa aL hf1 hSb hsb hO2 hf2 hSc hsc hO3 hf3 q1 q2 q3 cN;go_wp2_with fail
 go_loopg[8] 30 (fun g s8 wr=> ∃(k n m:Nat) (A B C:aW),k<=n0/\k<=30/\g=30-k/\s8=.int .i64 k/\A.p=pa/\B.p=pb/\C.p=pc/\Aside ((n<=k/\m<=k)/\zW w wr n m A B C/\rW A.sp B.sp/\kN BP A.sp C.sp))
 case atStart=>exact⟨0,0,0,A0,B0,C0,by omega,by omega,by omega,rfl,agD,agE,agF,⟨by omega,by omega⟩,hJ0.out,Pk.out,uV.out⟩
 case round=>
  obtain⟨k,n,m,A,B,C,hk0,ajQ,rfl,rfl,hpA,Uw,hpC,hAs⟩:=hrel;obtain⟨⟨hnk,hmk⟩,hJ,hK,hP⟩:=hAs;have dK:=hJ.a.own;clear hJ0 Pk uV;by_cases hlt:k<n0/\k<30
  ·obtain⟨k1,k3⟩:=hlt
   obtain⟨b1,o1,rfl,hts,hb1,hx⟩:=h0.out.at' dK k1;generalize hmm:ms k=mm at*;obtain⟨mt,mx,mq,mr⟩:=mm;simp only at hts hx;obtain⟨d0,d1,d2,d3⟩:=hx wr dK;have k3':(k:Int)<30:=by omega
   by_cases hbig:1500<mx.size
   ·have hbig':(1500:Int)<mx.size:=by omega
    replace hJ:=af hJ;replace hK:=af hK;replace hP:=af hP;replace dK:=af dK;clear hx;go_wp2_with fail
    go_roundg(30-(k+1))
    case measure=>omega
    case rel=>exact⟨k+1,n,m,A,B,C,by omega,by omega,by omega,by go_num,hpA,Uw,hpC,⟨by omega,by omega⟩,hJ.out,hK.out,hP.out⟩
   ·have hbig': ¬(1500:Int)<mx.size:=by omega
    obtain⟨tm,adV,adW⟩: ∃tm:Int,(k<n1->tm=zs k)/\(¬k<n1->tm=k):=by
     by_cases h:k<n1
     ·exact⟨zs k,fun _=>rfl,fun hh=>absurd h hh⟩
     ·exact⟨k,fun hh=>absurd hh h,fun _=>rfl⟩
    have Zi:=mG w wr n A tm mt mx mq mr hJ.a hL.out hts (by omega) (by omega);have cB1:=fun W (hW:tC w W n B)=>mG w W n B k mt mx mq mr hW hL.out hts (by omega) (by omega)
    have YF:=fun W (hW:tC w W m C)=>mG w W m C k mt mx mq mr hW hL.out hts (by omega) (by omega)
    have hlk:=F4 hK tm k mt mx;have hoth:((aH A.sp tm mt mx).1.g,(aH A.sp tm mt mx).1.n)≠BP->kN BP (aH A.sp tm mt mx).2 C.sp:=fun h=>hP.other h
    have hown:((aH A.sp tm mt mx).1.g,(aH A.sp tm mt mx).1.n)=BP->kN BP (aH A.sp tm mt mx).2 (aH C.sp k mt mx).2/\((aH C.sp k mt mx).1.code=(aH A.sp tm mt mx).1.code\/(aH A.sp tm mt mx).1.code=8):=fun h=>hP.own K3.1 K3.2 h
    rw[hpA]at Zi;rw[Uw]at cB1;rw[hpC]at YF;generalize aH A.sp tm mt mx=V1 at Zi hlk hoth hown;generalize aH B.sp k mt mx=V2 at cB1 hlk;generalize aH C.sp k mt mx=V3 at YF hown;obtain⟨⟨vc,vg,vn,va⟩,S1⟩:=V1;obtain⟨⟨wc,wg,wn,wa⟩,S2⟩:=V2;obtain⟨⟨uc,ug,un,ua⟩,S3⟩:=V3;obtain⟨⟨e1,e2,e3⟩,hK2⟩:=hlk;simp only at e1 e2 e3;subst e1 e2 e3;unfold KW at Zi cB1 YF;simp only at Zi cB1 YF hoth hown hK2;replace hJ:=af hJ;replace dK:=af dK;replace Zi:=af Zi;replace cB1:=af cB1;replace YF:=af YF;replace hoth:=af hoth;replace hown:=af hown;replace hK2:=af hK2;replace hx:=af hx;clear hK hP;have agG:(k<n1/\ ∃b2 o2,a1=some ⟨b2,o2,none⟩/\wr.cell? ⟨b2,o2+k,none⟩=some (.int .i64 tm))\/(¬k<n1/\tm=k):=by
     by_cases hn:k<n1
     ·obtain⟨b2,o2,e,hb2,hc2⟩:=h1.out (by omega)
      exact .inl ⟨hn,b2,o2,e,by rw[adV hn];exact(dK.out.cell (p:=⟨b2,o2+k,none⟩) hb2 (by simp)).trans (hc2 k hn).1⟩
     ·exact .inr ⟨hn,adW hn⟩
    clear adV adW;rcases agG with⟨hn,b2,o2,rfl,hct⟩|⟨hn,rfl⟩
    all_goals
     go_wp2_with fail
     with_reducible refine Zi.out.mono ?_
     rintro e w2 ⟨rfl,A',OX,AB,OZ,XU,hfA⟩;have hJ1:=hJ.out.takeA OX XU hfA;have hqB:w2.heap.size∉B.feet:=fun hx=>by have:=(hJ1.b.lt _ hx).2;omega
     have hqC:w2.heap.size∉C.feet:=fun hx=>by have:=(hJ1.c.lt _ hx).2;omega
     have hJ2:=hJ1.nil' ((ai.refl [] w2).alloc (.cells #[.int .i64 wc,.string wg,.string wn,.bool va] 31));have hq1:=heap_alloc_new w2 (.cells #[.int .i64 wc,.string wg,.string wn,.bool va] 31);clear d0 d1 d2 d3;obtain⟨d0,d1,d2,d3⟩:=hx.out _ hJ2.a.own;replace hJ2:=af hJ2;replace hq1:=af hq1;replace hqB:=af hqB;replace hqC:=af hqC;replace AB:=af AB;replace OZ:=af OZ;clear OX XU hfA hJ1 Zi;go_wp2_with fail
     generalize(w2.alloc (.cells #[.int .i64 wc,.string wg,.string wn,.bool va] 31))=W2 at*;generalize w2.heap.size=q1 at*;with_reducible refine(cB1.out W2 hJ2.out.b).mono ?_
     rintro e w4 ⟨rfl,B',hSB,O0,O3,hOB,hfB⟩;have hJ3:=hJ2.out.takeB hSB hOB hfB;have adY:=hOB.heap hq1.out hqB.out;have YG:w4.heap.size∉C.feet:=fun hx=>by have:=(hJ3.c.lt _ hx).2;omega
     have sZ:=(ai.refl [] w4).alloc (.cells #[.int .i64 wc,.string wg,.string wn,.bool wa] 31);have uj:=hJ3.nil' sZ;have hq2:=heap_alloc_new w4 (.cells #[.int .i64 wc,.string wg,.string wn,.bool wa] 31);have hq3:=sZ.heap adY (by simp);clear d0 d1 d2 d3;obtain⟨d0,d1,d2,d3⟩:=hx.out _ uj.a.own;obtain⟨e0,e1,e2,e3⟩:=fI hq3;have hgg:(wg.toList==wg.toList)=true:=by simp
     have hnn:(wn.toList==wn.toList)=true:=by simp
     obtain⟨bg,hbg⟩: ∃b,(wg.toList==[103])=b:=⟨_,rfl⟩;obtain⟨bn,hbn⟩: ∃b,(wn.toList==[110])=b:=⟨_,rfl⟩;have hgn:Hid ((bg&&bn)=true↔(wg,wn)=BP):=af (by
      rw[<-hbg,<-hbn,Bool.and_eq_true,beq_iff_eq,beq_iff_eq];unfold BP;rw[Prod.mk.injEq];have t1:(⟨#[103]⟩:ByteArray).toList=[103]:=by rw[Lib.toList_data]
      have t2:(⟨#[110]⟩:ByteArray).toList=[110]:=by rw[Lib.toList_data]
      exact⟨fun h=>⟨dA (h.1.trans t1.symm),dA (h.2.trans t2.symm)⟩,fun h=>⟨by rw[h.1];exact t1,by rw[h.2];exact t2⟩⟩)
     replace uj:=af uj;replace hq2:=af hq2;replace hq3:=af hq3;replace YG:=af YG;replace O0:=af O0;replace O3:=af O3;clear hSB hOB hfB hJ3 cB1 adY sZ hJ2 hq1 hqB;by_cases hb:(bg&&bn)=true
     ·have hP2:=hown.out (hgn.out.1 hb)
      rw[Bool.and_eq_true]at hb;obtain⟨rfl,rfl⟩:=hb;have p1:wg.toList=[103]:=by simpa using hbg
      have p2:wn.toList=[110]:=by simpa using hbn
      replace hP2:=af hP2;clear hown hoth hgn;go_wp2_with fail
      generalize(w4.alloc (.cells #[.int .i64 wc,.string wg,.string wn,.bool wa] 31))=W4 at*;generalize w4.heap.size=q2 at*;with_reducible refine(YF.out W4 uj.out.c).mono ?_
      rintro e w5 ⟨rfl,C',hSC,U7,U8,hOC,hfC⟩;have mO:=uj.out.takeC hSC hOC hfC;have hA6:=(ai.refl [] w5).alloc (.cells #[.int .i64 uc,.string ug,.string un,.bool ua] 31);have hJ6:=mO.nil' hA6;have hq6:=hA6.heap (hOC.heap hq3.out hqC.out) (by simp);clear e0 e1 e2 e3;obtain⟨e0,e1,e2,e3⟩:=fI hq6;have hcode:uc=wc\/wc=8:=hP2.out.2;replace hP2:=af hP2.out.1;replace hJ6:=af hJ6;replace U7:=af U7;replace U8:=af U8;clear hSC hOC hfC mO hA6 hq6 YF uj hq2 hq3 YG hqC d0 d1 d2 d3 hbg hbn hgg hnn;rcases hcode with rfl|rfl
      ·go_wp2_with fail
       go_roundg(30-(k+1))
       case measure=>omega
       case rel=>exact⟨k+1,n+1,m+1,A',B',C',by omega,by omega,by omega,by go_num,OZ.out,O3.out,U8.out,⟨by omega,by omega⟩,hJ6.out,by rw[AB.out,O0.out];exact hK2.out,by rw[AB.out,U7.out];exact hP2.out⟩
      ·by_cases hu:uc=8
       ·subst hu
        go_wp2_with fail
        go_roundg(30-(k+1))
        case measure=>omega
        case rel=>exact⟨k+1,n+1,m+1,A',B',C',by omega,by omega,by omega,by go_num,OZ.out,O3.out,U8.out,⟨by omega,by omega⟩,hJ6.out,by rw[AB.out,O0.out];exact hK2.out,by rw[AB.out,U7.out];exact hP2.out⟩
       ·go_wp2_with fail
        go_roundg(30-(k+1))
        case measure=>omega
        case rel=>exact⟨k+1,n+1,m+1,A',B',C',by omega,by omega,by omega,by go_num,OZ.out,O3.out,U8.out,⟨by omega,by omega⟩,hJ6.out,by rw[AB.out,O0.out];exact hK2.out,by rw[AB.out,U7.out];exact hP2.out⟩
     ·have hP2:=hoth.out (fun h=>hb (hgn.out.2 h))
      replace hP2:=af hP2;clear hown hoth hgn YF hqC YG hq2 hq3;have hbb:bg=false\/(bg=true/\bn=false):=by cases bg<;>cases bn<;>simp at hb⊢
      clear hb;rcases hbb with rfl|⟨rfl,rfl⟩
      case' inl=>
       have p1: ¬wg.toList=[103]:=by simpa using hbg
       clear hbn
      case' inr=>
       have p1:wg.toList=[103]:=by simpa using hbg
       have p2: ¬wn.toList=[110]:=by simpa using hbn
      all_goals
       go_wp2_with fail
       go_roundg(30-(k+1))
       case measure=>omega
       case rel=>exact⟨k+1,n+1,m,A',B',C,by omega,by omega,by omega,by go_num,OZ.out,O3.out,hpC,⟨by omega,by omega⟩,uj.out,by rw[AB.out,O0.out];exact hK2.out,by rw[AB.out];exact hP2.out⟩
  ·have hex:(¬k<n0)\/(k<n0/\ ¬((k:Int)<30)):=by omega
   have Gp:=Ot hJ.a.sk;have YD:(A.sp.bi.map iV).length<=40:=by rw[List.length_map];have:=hJ.a.inv.few;omega
   have hnd:=hJ.a.inv.nd;have hn8:=hJ.a.inv.n8;have cNa:Hid (∀W,ai [] wr W->Calls Tryz.prog 10 #[aN pa] W (lJ A.sp W)):=af fun W ho=>by have:=o5 A W ((hJ.nil' ho).a.sk);rw[hpA]at this;exact this
   have cNb:Hid (∀W,ai [] wr W->Calls Tryz.prog 10 #[aN pb] W (lJ B.sp W)):=af fun W ho=>by have:=o5 B W ((hJ.nil' ho).b.sk);rw[Uw]at this;exact this
   have cNc:Hid (∀W,ai [] wr W->Calls Tryz.prog 10 #[aN pc] W (lJ C.sp W)):=af fun W ho=>by have:=o5 C W ((hJ.nil' ho).c.sk);rw[hpC]at this;exact this
   have cBa:Hid (∀W,ai [] wr W->Calls Tryz.prog 12 #[aN pa] W (ql A.sp W)):=af fun W ho=>by have:=xg A W ((hJ.nil' ho).a.sk);rw[hpA]at this;exact this
   have cBb:Hid (∀W,ai [] wr W->Calls Tryz.prog 12 #[aN pb] W (ql B.sp W)):=af fun W ho=>by have:=xg B W ((hJ.nil' ho).b.sk);rw[Uw]at this;exact this
   replace hJ:=af hJ;replace hK:=af hK;replace hP:=af hP;replace dK:=af dK;replace Gp:=af Gp;replace hnd:=af hnd;replace YD:=af YD;replace hn8:=af hn8;clear hlt;rcases hex with h2|⟨h2,h3⟩
   all_goals
    go_wp2_with fail
    with_reducible refine(cNa.out wr (ai.refl _ _)).mono ?_
    rintro e w2 ⟨va,TA,rfl,U9,hsA,OX,YH,hO2⟩;obtain⟨aA,cA,rfl⟩:=OX.sl;replace U9:=af U9;replace hsA:=af hsA;replace OX:=af OX;replace YH:=af YH;replace hO2:=af hO2;go_wp2_with fail
    with_reducible refine(cNb.out w2 hO2.out).mono ?_
    rintro e w3 ⟨vb,TB,rfl,ad1,hsB,hSB,ad2,hO3⟩;obtain⟨aB,cB,rfl⟩:=hSB.sl;have U1:=af (F7 U9.out ad1 hK.out.nodes hsA.out hsB);replace hO3:=af hO3;have dO:=af (hO2.out.trans hO3.out);have ad3:=af hSB;have Zj:=af ad2;clear ad1 hsB hSB ad2;go_wp2_with fail
    with_reducible refine(cNc.out w3 dO.out).mono ?_
    rintro e w4 ⟨vc,TC,rfl,ad4,hsC,hSC,ad5,hO4⟩;obtain⟨aC,cC,rfl⟩:=hSC.sl;have hpe:=TQ hP.out ad4;have hlen:TB.length=TA.length:=by have:=congrArg List.length U1.out;simpa using this.symm
    have O9:(TC.length:Int)<=1:=by have:=hpe.1;omega
    have hTA:TA.length<=8:=by have h8:=hn8.out;have h9:=U9.out.length_eq;simp only[List.length_map]at h9;omega
    have agK:=af (OX.out.nil' (hO3.out.trans hO4));have agL:=af (ad3.out.nil' hO4);have agM:=af hSC;have ad6:=af (fun x hx=>(YH.out x hx).nil' (hO3.out.trans hO4));have ad7:=af (fun x hx=>(Zj.out x hx).nil' hO4);have ad8:=af ad5;have kJ:=af (dO.out.trans hO4);replace hpe:=af hpe.2;rw[hlen];replace hlen:=af hlen;clear ad4 hsC hSC ad5 hO4 OX ad3 YH Zj hO3 dO hO2 hsA cNa cNb cNc;go_wp2_with fail
    go_loopg[16] TA.length (fun g s16 wr2=> ∃j:Nat,j<=TA.length/\g=TA.length-j/\s16=.int .i64 j/\Aside (ai [] w4 wr2))
    case atStart=>exact⟨0,by omega,by omega,rfl,ai.refl _ _⟩
    case round=>
     obtain⟨j,hj,rfl,rfl,gY⟩:=hrel;have aF:ai [] w4 wr:=gY;clear gY;by_cases hjl:j<TA.length
     ·obtain⟨gA,rfl,hcA⟩:=zX agK.out hjl
      have hjB:j<TB.length:=by have:=hlen.out;omega
      obtain⟨gB,rfl,hcB⟩:=zX agL.out hjB;have hxy:TA[j].say=TB[j].say:=by
       have e1:(TA.map gN.say)[j]'(by simpa using hjl)=(TB.map gN.say)[j]'(by simpa using hjB):=by simp only[U1.out]
       simpa using e1
      have hmem:TA[j].say∈A.sp.nodes:=U9.out.mem_iff.1 (List.mem_map.2 ⟨_,List.getElem_mem hjl,rfl⟩);have hfx:Few TA[j].s:=Gp.out _ hmem;have hsx:=ad6.out _ (List.getElem_mem hjl);have hsy:=ad7.out _ (List.getElem_mem hjB);have hpx:=af (fun(hk:TA[j].key=BP)=>hpe.out TA[j] hmem hk hnd.out);have hcS:=af (fun W (ho:ai [] w4 W)=>BO (hsx.nil' ho) (hsy.nil' ho) hxy hfx);have hcT:=af (fun W (ho:ai [] w4 W) (z:gN) (hz:iY w3.heap.size w4 z) (e:TA[j].say=z.say)=>BO (hsx.nil' ho) (hz.nil' ho) e hfx);obtain⟨x0,x1,x2,x3,x4,x5,x6,x7⟩:=hcA _ aF.drew;obtain⟨y0,y1,y2,y3,y4,y5,y6,y7⟩:=hcB _ aF.drew;clear hxy hfx hsx hsy hmem;generalize TA[j]=x at*;generalize TB[j]=y at*;unfold gN.val at hcS hcT;have q0:(0:Int)<=j:=by omega
      have q1:(j:Int)<TA.length:=by omega
      replace hcA:=af hcA;replace aF:=af aF;clear hcB;go_wp2_with fail
      go_still_tail 8,(by kernel_rfl)
      change wpList _ _ _ _ _ wr.drew;go_wp2_with fail
      with_reducible refine(hcS.out _ aF.out.drew).mono ?_
      rintro e w6 ⟨rfl,bI⟩;have O4:=af (aF.out.drew.trans bI);clear x0 x1 x2 x3 x4 x5 x6 x7 y0 y1 y2 y3 y4 y5 y6 y7 hcS bI;obtain⟨bg,hbg⟩: ∃b,(x.g.toList==[103])=b:=⟨_,rfl⟩;obtain⟨bn,hbn⟩: ∃b,(x.nm.toList==[110])=b:=⟨_,rfl⟩;by_cases hb:(bg&&bn)=true
      ·rw[Bool.and_eq_true]at hb
       obtain⟨rfl,rfl⟩:=hb;have p1:x.g.toList=[103]:=by simpa using hbg
       have p2:x.nm.toList=[110]:=by simpa using hbn
       have hkey:x.key=BP:=by
        have t1:(⟨#[103]⟩:ByteArray).toList=[103]:=by rw[Lib.toList_data]
        have t2:(⟨#[110]⟩:ByteArray).toList=[110]:=by rw[Lib.toList_data]
        unfold gN.key BP;rw[dA (p1.trans t1.symm),dA (p2.trans t2.symm)]
       obtain⟨z,hTC,hz⟩:=hpx.out hkey;have hl1:TC.length=1:=by rw[hTC];rfl
       have h0z:0<TC.length:=by omega
       have hz0:TC[0]=z:=by subst hTC;rfl
       obtain⟨gC,rfl,hcC⟩:=zX agM.out h0z;have hcZ:=af (hcT.out _ O4.out.drew z (ad8.out z (by rw[hTC];simp)) hz.symm);rw[hz0]at hcC;obtain⟨x0,x1,x2,x3,x4,x5,x6,x7⟩:=hcA.out _ O4.out.drew;obtain⟨y0,y1,y2,y3,y4,y5,y6,y7⟩:=hcC _ O4.out.drew;simp only[Nat.zero_mul,Nat.zero_add]at y0 y1 y2 y3 y4 y5 y6 y7;replace hTC:=af hTC;replace hz:=af hz;replace hz0:=af hz0;replace hkey:=af hkey;have ajU:((TC.length:Int)!=1)=false:=by rw[hl1];rfl
       have h0i:(0:Int)<TC.length:=by omega
       clear hcC hl1 hbg hbn O9;go_wp2_with fail
       go_still_tail 26,(by kernel_rfl)
       change wpList _ _ _ _ _ w6.drew;go_wp2_with fail
       with_reducible refine hcZ.out.mono ?_
       rintro e w7 ⟨rfl,eU⟩;have agP:=af (O4.out.drew.trans eU);clear x0 x1 x2 x3 x4 x5 x6 x7 y0 y1 y2 y3 y4 y5 y6 y7 hcZ eU;go_wp2_with fail
       go_roundg(TA.length-(j+1))
       case measure=>omega
       case rel=>exact⟨j+1,by omega,rfl,by go_num,agP.out⟩
      ·obtain⟨x0,x1,_⟩:=hcA.out _ O4.out
       have hbb:bg=false\/(bg=true/\bn=false):=by cases bg<;>cases bn<;>simp at hb⊢
       clear hb;rcases hbb with rfl|⟨rfl,rfl⟩
       case' inl=>
        have p1: ¬x.g.toList=[103]:=by simpa using hbg
        clear hbn
       case' inr=>
        have p1:x.g.toList=[103]:=by simpa using hbg
        have p2: ¬x.nm.toList=[110]:=by simpa using hbn
       all_goals
        go_wp2_with fail
        go_quiet(fail)
        go_wp2_with fail
        go_roundg(TA.length-(j+1))
        case measure=>omega
        case rel=>exact⟨j+1,by omega,rfl,by go_num,O4.out.drewN _⟩
     ·replace aF:=af aF
      have Dn:=af (kJ.out.trans aF.out);have aea:=cBa.out wr Dn.out;go_wp2_with fail
      with_reducible refine aea.mono ?_
      rintro e w6 ⟨ua,rfl,hUA,bI⟩;have aeb:=af (Dn.out.trans bI);replace hUA:=af hUA;clear aea bI;go_wp2_with fail
      with_reducible refine(cBb.out w6 aeb.out).mono ?_
      rintro e w7 ⟨ub,rfl,hUB,eU⟩;rw[hK.out.bi]at hUB;have agQ:=af (hUA.out.nil' eU);have agR:=af (aeb.out.trans eU);replace hUB:=af hUB;clear hUA eU;go_wp2_with fail
      with_reducible refine(F8 agQ.out hUB.out YD.out).mono ?_
      rintro e w8 ⟨rfl,gV⟩;have aec:=af (dK.out.trans (agR.out.trans gV));clear gV;go_wp2_with fail
      with_reducible refine(hA.out w8 aec.out).mono ?_
      rintro e w9 ⟨rfl,mU⟩;replace mU:=af mU;go_wp2_with fail
      go_ret
      exact⟨rfl,(aec.out.trans mU.out).below (Nat.le_refl _) (by simp)⟩
end Go.Proofs.YtedcakchekaemaaGreatDoor
namespace Go.Proofs.YtedcakchekaemaaGreatDoor
open Go.RowKit
theorem Ov(a0:Option Addr)(n0 c0:Nat)(ms:Nat->xW)(a1:Option Addr)(n1 c1:Nat)(zs:Nat->Int)(w:World)(h0:Dc w a0 n0 ms)(_u:True)(h1:qX .i64 w a1 n1 zs)(hT:(∃kd:Kd,@mF kd w)/\pI w):
  Calls Tryz.prog 5 #[.slice a0 n0 c0,.slice a1 n1 c1] w fun e w'=>e=.returned (.bool true)/\Below w.heap.size w w':=by
 obtain⟨⟨kd,hL⟩,hT⟩:=hT;exact @JQ kd a0 n0 c0 ms a1 n1 c1 zs w h0 h1 hL (fun W ho=>Df W (hT.own ho))
end Go.Proofs.YtedcakchekaemaaGreatDoor
