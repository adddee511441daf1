import Derived.Test.YtedcakchekaemaaGreatDoorMn12
import Derived.Test.YtedcakchekaemaaGreatDoorMn13
set_option maxRecDepth 100000
set_option maxHeartbeats 16000000
set_option linter.all false
namespace Go.Proofs.YtedcakchekaemaaGreatDoor
open Go.RowKit
theorem O0(n:Nat)(g nm:ByteArray)(L:EW)(s:EN)(dn:ByteArray)(p:gT)(w:World)(h:au w n g nm L s)(hM:dR w p.a p.M)(h0:0<=p.s)(hE:jm w):
  Calls Tryz.prog 216 #[.pointer (some ⟨n,0,none⟩),.string dn,p.val] w (dD n g nm L (vG s p) w):=by
 have hW0:=dH w p;have hP:=fun W (ho:ai [] (dS w p) W)=>bC w p (S:=[]) (by simp) W ho
 have hC:=fun W (ho:ai [] w W)=>aM h (S:=[]) (by simp) W ho
 have hsame:=fun W (ho:ai [] w W)=>h.same ho
 have cF:=fun W (ho:ai [] w W)=>uV n g nm L s p W (h.nil' ho) h0
 have hil:s.items.length<=32:=h.few.1;have cU:=fun W (ho:ai [] w W)=>CJ L.ia s.items L.ic p.a p.M p.c L.tb L.tm s.al ig W ((h.nil' ho).its.at_ (by omega)) (hM.nil' ho) (h.tab.own ho (by simp) (by simp)) (by omega) (hE.nil ho)
 have Ey:=zJ (fZ s.al ig) p.M s.items;have cK:=fun W L' s' (hk:au W n g nm L' s') (hf:iC s' p=true)=>qP n g nm L' s' p W hk h0 hf
 have hset:=fun W a cap l (ho:ai [] w W) (hR:aI w.heap.size W a cap l) (hl:l.length<=32)=>h.setItems (a:=a) (cap:=cap) ho hR hl
 unfold dD vG;unfold kD at cU;have hv:p.val=.agg #[.int .u64 p.t,.bool p.h,.int .u64 p.s,.string p.u,.string p.b,.slice p.a p.M.length p.c]:=rfl;rw[hv]at cF cK⊢;simp only[dS]at hW0 hP;generalize fT (fZ s.al ig) p.M s.items=up at*;obtain⟨Zg,up2⟩:=up;unfold ig at*;simp only at*;obtain⟨⟨k2,k3,k4,k5,k6,k7,k8⟩,_⟩:=hC _ hW0;cases hon:s.online with
 |false=>
  rw[if_pos rfl];rw[hon]at k2;change Hid _ at hsame;replace hW0:=af hW0;clear cF cU cK hset hC hP h hM hE hon;go_enter Tryz.func216,Tryz.ntmps216
  go_wp2_with fail
  go_ret
  exact⟨rfl,hsame.out _ hW0.out⟩
 |true=>
  rw[if_neg (by simp)];rw[hon]at k2;obtain⟨q0,q1,q2,q3,q4,q5⟩:=hP _ (ai.refl _ _);have Ju:=cF _ hW0;cases hft:iC s p with
  |false=>
   rw[if_pos rfl];rw[hft]at Ju;change Hid _ at hsame;replace hW0:=af hW0;replace Ju:=af Ju;clear cF cU cK hset hC hP h hM hE hon hft;go_enter Tryz.func216,Tryz.ntmps216
   go_wp2_with(go_at_call 267;(with_reducible refine Ju.out.mono ?_);rintro e w2 ⟨rfl,hO2⟩;replace hO2:=af (hW0.out.trans hO2))
   go_ret
   exact⟨rfl,hsame.out _ hO2.out⟩
  |true=>
   rw[if_neg (by simp)];rw[hft]at Ju;change Hid _ at hP hC cU cK hset hsame;replace Ju:=af Ju;have mV:=af hW0;have Ia:=af hon;have QK:=af hft;clear cF h hM hE hon hft hW0;by_cases hu:Zg=1
   ·subst hu
    rw[if_neg (by simp)];have WW:=af (Nat.le_trans Ey hil);clear Ey hil;go_enter Tryz.func216,Tryz.ntmps216
    go_wp2_with(go_at_call 267;(with_reducible refine Ju.out.mono ?_);rintro e w2 ⟨rfl,hO2⟩;have hX2:=mV.out.trans hO2;obtain⟨⟨l2,l3,l4,l5,l6,l7,l8⟩,_⟩:=hC.out _ hX2;obtain⟨r0,r1,r2,r3,r4,r5⟩:=hP.out _ hO2;have cU2:=af (cU.out _ hX2.drew);replace hX2:=af hX2;replace hO2:=af hO2)
    go_region_with((go_at_call 268;(with_reducible refine cU2.out.mono ?_);rintro e w3 ⟨a,cap,rfl,eP,hO3⟩;have eT:=hX2.out.drew.trans hO3;obtain⟨_,z2,z3,z5,z6,z7,z8⟩:=hC.out _ eT;have QJ:aI w.heap.size w3 a cap up2:=⟨eP.own,fun q hq=>Nat.le_trans hX2.out.size (eP.fresh q hq),eP.good⟩;obtain⟨ji,hO4,hfe⟩:=hset.out _ a cap up2 eT QJ WW.out;have hP3:=hP.out _ ((hO2.out.drew).trans hO3);have cK3:=af (cK.out _ _ _ ji QK.out);replace eT:=af eT;replace hO4:=af hO4;replace hfe:=af hfe;replace ji:=af ji;obtain⟨m0,m1,m2,m3,m4,m5⟩:=hP3;clear eP QJ))
    all_goals
     go_wp2_with(go_at_call 269;(with_reducible refine cK3.out.mono ?_);rintro e w5 ⟨rfl,iF,aB⟩;replace iF:=af iF;replace aB:=af aB)
     go_ret
     have Ez:=iF.out;rw[Ia.out]at Ez;refine⟨rfl,_,Ez,?_,hfe.out⟩;have h1:ai (L.feet n) w _:=eT.out.nil.trans (hO4.out.mono (fun x hx=>by simp at hx;subst hx;unfold EW.feet;simp));exact h1.trans (aB.out.mono (fun x hx=>by simp at hx;subst hx;unfold EW.feet;simp))
   ·rw[if_pos hu]
    have hu1:(Zg !=1)=true:=by simpa using hu
    clear hu Ey hil cK hset;go_enter Tryz.func216,Tryz.ntmps216
    go_wp2_with(go_at_call 267;(with_reducible refine Ju.out.mono ?_);rintro e w2 ⟨rfl,hO2⟩;have hX2:=mV.out.trans hO2;obtain⟨⟨l2,l3,l4,l5,l6,l7,l8⟩,_⟩:=hC.out _ hX2;obtain⟨r0,r1,r2,r3,r4,r5⟩:=hP.out _ hO2;have cU2:=af (cU.out _ hX2.drew);replace hX2:=af hX2;replace hO2:=af hO2)
    go_region_with((go_at_call 268;(with_reducible refine cU2.out.mono ?_);rintro e w3 ⟨a,cap,rfl,eP,hO3⟩;have eT:=hX2.out.drew.trans hO3;replace eT:=af eT;clear eP))
    all_goals
     go_wp2_with fail
     go_ret
     exact⟨rfl,hsame.out _ eT.out⟩
def Yw(s:EN):Int:=if s.online=true then s.bd else 0
def zT(s:EN):Int:=if s.begun=true then s.want else 0
def mJ(w:World)(b:Nat):Prop:=(w.cell? ⟨b,0,none⟩=some (.string ⟨#[]⟩)/\w.cell? ⟨b,1,none⟩=some (.string ⟨#[]⟩)/\w.cell? ⟨b,2,none⟩=some (.bool false)/\w.cell? ⟨b,3,none⟩=some (.int .i64 0)/\w.cell? ⟨b,4,none⟩=some (.int .i64 0)/\w.cell? ⟨b,5,none⟩=some (.bool false)/\w.cell? ⟨b,6,none⟩=some (.slice none 0 0)/\w.cell? ⟨b,7,none⟩=some (.slice none 0 0))/\
 (w.frozen? ⟨b,0,none⟩=false/\w.frozen? ⟨b,1,none⟩=false/\w.frozen? ⟨b,2,none⟩=false/\w.frozen? ⟨b,3,none⟩=false/\w.frozen? ⟨b,4,none⟩=false/\w.frozen? ⟨b,5,none⟩=false/\w.frozen? ⟨b,6,none⟩=false/\w.frozen? ⟨b,7,none⟩=false)
theorem U3{w:World}{b:Nat}(h:w.heap[b]?=some (.cells #[.string ⟨#[]⟩,.string ⟨#[]⟩,.bool false,.int .i64 0,.int .i64 0,.bool false,.slice none 0 0,.slice none 0 0] 38 (0,0))):mJ w b:=JZ h
theorem abm{w:World}{b:Nat}{T:TypeId}{u0 u1 u2 u3 u4 u5 u6 u7 v0 v1 v2 v3 v4 v5 v6 v7:Value}(h:w.heap[b]?=some (.cells #[u0,u1,u2,u3,u4,u5,u6,u7] T (0,0))):
  ((((((((w.setCell ⟨b,0,none⟩ v0).setCell ⟨b,1,none⟩ v1).setCell ⟨b,2,none⟩ v2).setCell ⟨b,3,none⟩ v3).setCell ⟨b,4,none⟩ v4).setCell ⟨b,5,none⟩ v5).setCell ⟨b,6,none⟩ v6).setCell ⟨b,7,none⟩ v7).heap[b]?=some (.cells #[v0,v1,v2,v3,v4,v5,v6,v7] T (0,0)):=by
 have h0:(w.setCell ⟨b,0,none⟩ v0).heap[b]?=some (.cells #[v0,u1,u2,u3,u4,u5,u6,u7] T (0,0)):=heap_setCell_same _ _ _ _ _ _ h;have h1:((w.setCell ⟨b,0,none⟩ v0).setCell ⟨b,1,none⟩ v1).heap[b]?=some (.cells #[v0,v1,u2,u3,u4,u5,u6,u7] T (0,0)):=heap_setCell_same _ _ _ _ _ _ h0;have h2:(((w.setCell ⟨b,0,none⟩ v0).setCell ⟨b,1,none⟩ v1).setCell ⟨b,2,none⟩ v2).heap[b]?=some (.cells #[v0,v1,v2,u3,u4,u5,u6,u7] T (0,0)):=heap_setCell_same _ _ _ _ _ _ h1;have h3:((((w.setCell ⟨b,0,none⟩ v0).setCell ⟨b,1,none⟩ v1).setCell ⟨b,2,none⟩ v2).setCell ⟨b,3,none⟩ v3).heap[b]?=some (.cells #[v0,v1,v2,v3,u4,u5,u6,u7] T (0,0)):=heap_setCell_same _ _ _ _ _ _ h2;have h4:(((((w.setCell ⟨b,0,none⟩ v0).setCell ⟨b,1,none⟩ v1).setCell ⟨b,2,none⟩ v2).setCell ⟨b,3,none⟩ v3).setCell ⟨b,4,none⟩ v4).heap[b]?=some (.cells #[v0,v1,v2,v3,v4,u5,u6,u7] T (0,0)):=heap_setCell_same _ _ _ _ _ _ h3;have h5:((((((w.setCell ⟨b,0,none⟩ v0).setCell ⟨b,1,none⟩ v1).setCell ⟨b,2,none⟩ v2).setCell ⟨b,3,none⟩ v3).setCell ⟨b,4,none⟩ v4).setCell ⟨b,5,none⟩ v5).heap[b]?=some (.cells #[v0,v1,v2,v3,v4,v5,u6,u7] T (0,0)):=heap_setCell_same _ _ _ _ _ _ h4;have h6:(((((((w.setCell ⟨b,0,none⟩ v0).setCell ⟨b,1,none⟩ v1).setCell ⟨b,2,none⟩ v2).setCell ⟨b,3,none⟩ v3).setCell ⟨b,4,none⟩ v4).setCell ⟨b,5,none⟩ v5).setCell ⟨b,6,none⟩ v6).heap[b]?=some (.cells #[v0,v1,v2,v3,v4,v5,v6,u7] T (0,0)):=heap_setCell_same _ _ _ _ _ _ h5;have h7:((((((((w.setCell ⟨b,0,none⟩ v0).setCell ⟨b,1,none⟩ v1).setCell ⟨b,2,none⟩ v2).setCell ⟨b,3,none⟩ v3).setCell ⟨b,4,none⟩ v4).setCell ⟨b,5,none⟩ v5).setCell ⟨b,6,none⟩ v6).setCell ⟨b,7,none⟩ v7).heap[b]?=some (.cells #[v0,v1,v2,v3,v4,v5,v6,v7] T (0,0)):=heap_setCell_same _ _ _ _ _ _ h6;exact h7
theorem Bd{S:List Nat}{w w':World}{b:Nat}(h:mJ w b)(ho:ai S w w')(hb:b∉S):mJ w' b:=by
 obtain⟨⟨h0,h1,h2,h3,h4,h5,h6,h7⟩,g0,g1,g2,g3,g4,g5,g6,g7⟩:=h;have hl:=block_lt_of_cell h0;have hc: ∀o v,w.cell? ⟨b,o,none⟩=some v->w'.cell? ⟨b,o,none⟩=some v:=fun o v h=>(ho.cell (p:=⟨b,o,none⟩) hl hb).trans h
 have hf: ∀o,w.frozen? ⟨b,o,none⟩=false->w'.frozen? ⟨b,o,none⟩=false:=fun o h=>(World.frozen?_of_block (w:=w) (ho.block b hl hb)).trans h
 exact⟨⟨hc _ _ h0,hc _ _ h1,hc _ _ h2,hc _ _ h3,hc _ _ h4,hc _ _ h5,hc _ _ h6,hc _ _ h7⟩,hf _ g0,hf _ g1,hf _ g2,hf _ g3,hf _ g4,hf _ g5,hf _ g6,hf _ g7⟩
structure DV where
 name:ByteArray
 on:Bool
 a:Option Addr
 n:Nat
 cap:Nat
def vX(v:DV):List Value:=[.string v.name,.bool v.on,.slice v.a v.n v.cap]
theorem Dt(v:DV):(vX v).length=3:=rfl
theorem VR:(Tryz.prog.info? 46).map (fun i=>(i.zero,i.size,i.bytes))=some (some (.agg #[.string ⟨#[]⟩,.bool false,.slice none 0 0]),3,48):=by kernel_rfl
theorem Yx:je Tryz.prog 36 46 vX 3 48 where
 ut:=Tryz.underlying36
 info:=by obtain⟨i,h1,h2,h3,h4⟩:=info_parts VR;exact⟨i,_,h1,h2,h3,h4,rfl⟩
 pos:=by omega
 len:=Dt
 one x u hu:=by simp[vX]at hu;rcases hu with rfl|rfl|rfl<;>rfl
def XH(B:Nat)(w:World)(V:List DV)(X:List bQ):Prop:=V.length=X.length/\ ∀(i:Nat) v x,V[i]?=some v->X[i]?=some x->v.name=x.name/\v.on=x.on/\v.n=x.items.length/\aI B w v.a v.cap x.items
structure VL (w wr:World) (r t:Nat) (a:Option Addr) (cap:Nat) (its:List bD) (vv:Value) (V:List DV) (X:List bQ):Prop where
 out:aI w.heap.size wr a cap its
 sl:Sl 46 vX 3 w.heap.size wr vv V
 dvs:XH w.heap.size wr V X
 own:ai [] w wr
 ge:w.heap.size<=r/\w.heap.size<=t
 n1: ∀b,a.map (·.block)=some b->b≠r/\b≠t/\vv.ownBlock≠some b
 n2: ∀v∈V,∀b,v.a.map (·.block)=some b->b≠r/\b≠t/\vv.ownBlock≠some b
 n3: ∀b,vv.ownBlock=some b->b≠r/\b≠t
theorem VL.own'{S:List Nat}{w wr w':World}{r t:Nat}{a:Option Addr}{cap:Nat}{its:List bD}{vv:Value}{V:List DV}{X:List bQ}(h:VL w wr r t a cap its vv V X)(ho:ai S wr w')(hS: ∀x∈S,x=r\/x=t):VL w w' r t a cap its vv V X:=by
 have hno: ∀b,b≠r->b≠t->b∉S:=fun b h1 h2 hx=>by rcases hS b hx with h|h;exact h1 h;exact h2 h
 refine⟨h.out.own' ho (fun b hb=>hno b (h.n1 b hb).1 (h.n1 b hb).2.1),h.sl.own ho (fun b hb=>hno b (h.n3 b hb).1 (h.n3 b hb).2),⟨h.dvs.1,fun i v x hv hx=>?_⟩,h.own.trans' ho (fun x hx=>.inr ?_),h.ge,h.n1,h.n2,h.n3⟩
 ·obtain⟨k1,k2,k3,k4⟩:=h.dvs.2 i v x hv hx
  have:=h.n2 v (List.mem_of_getElem? hv);exact⟨k1,k2,k3,k4.own' ho (fun b hb=>hno b (this b hb).1 (this b hb).2.1)⟩
 ·rcases hS x hx with h1|h1
  ·rw[h1];exact h.ge.1
  ·rw[h1];exact h.ge.2
theorem nJ{B:Nat}{w:World}{a:Option Addr}{cap:Nat}{L:List bD}(h:aI B w a cap L): ∀b,a.map (·.block)=some b->B<=b/\b<w.heap.size:=fun b hb=>by
 refine⟨?_,h.blt hb⟩;cases a with
 |none=>cases hb
 |some q=>cases hb;exact h.fresh q rfl
theorem VL.push{w wr w1 w2 w3:World}{r t:Nat}{a:Option Addr}{cap:Nat}{its:List bD}{vv v3:Value}{V:List DV}{X:List bQ}{x:bQ}{d:DV}(h:VL w wr r t a cap its vv V X)(hrt:r<wr.heap.size/\t<wr.heap.size)
  (h1:d.name=x.name/\d.on=x.on/\d.n=x.items.length/\aI wr.heap.size w1 d.a d.cap x.items)(ho1:ai [] wr w1)(ho2:ai [] w1 w2)(hS:Sl 46 vX 3 w.heap.size w3 v3 (V++[d]))
  (ho3:ai vv.ownBlock.toList w2 w3)(hg: ∀g,v3.ownBlock=some g->vv.ownBlock=some g\/w2.heap.size<=g):VL w w3 r t a cap its v3 (V++[d]) (X++[x]):=by
 have hlt:=fun b hb=>(nJ h.out b hb).2
 have hsz1:=ho1.size;have hsz2:=ho2.size;have MH:ai [] wr w2:=ho1.trans ho2;have hvS: ∀b,vv.ownBlock≠some b->b∉vv.ownBlock.toList:=fun b hb hx=>hb (Option.mem_toList.1 hx)
 have hnew: ∀b,b<w2.heap.size->vv.ownBlock≠some b->v3.ownBlock≠some b:=fun b hb h1 h2=>by
  rcases hg b h2 with h3|h3
  ·exact h1 h3
  ·omega
 have abM: ∀v∈V,∀b,v.a.map (·.block)=some b->b<wr.heap.size:=fun v hv b hb=>by
  obtain⟨i,hi⟩:=List.getElem?_of_mem hv;have hil:i<X.length:=by rw[<-h.dvs.1];exact(List.getElem?_eq_some_iff.1 hi).1
  exact(nJ (h.dvs.2 i v _ hi (List.getElem?_eq_getElem hil)).2.2.2 b hb).2
 have hd1:=nJ h1.2.2.2;have hvw: ∀b,vv.ownBlock=some b->b<wr.heap.size:=fun b hb=>(h.sl.block hb).2
 refine⟨(h.out.nil' MH).own' ho3 (fun b hb=>hvS b (h.n1 b hb).2.2),hS,⟨by simp[h.dvs.1],fun i v y hv hy=>?_⟩,(h.own.trans MH).trans' ho3 (fun y hy=>.inr ?_),h.ge,fun b hb=>⟨(h.n1 b hb).1,(h.n1 b hb).2.1,hnew b (by have:=hlt b hb;omega) (h.n1 b hb).2.2⟩,fun v hv b hb=>?_,fun b hb=>?_⟩
 ·rcases Nat.lt_or_ge i V.length with hi|hi
  ·rw[List.getElem?_append_left hi]at hv
   rw[List.getElem?_append_left (by rw[<-h.dvs.1];exact hi)]at hy;obtain⟨k1,k2,k3,k4⟩:=h.dvs.2 i v y hv hy;exact⟨k1,k2,k3,(k4.nil' MH).own' ho3 (fun b hb=>hvS b ((h.n2 v (List.mem_of_getElem? hv)) b hb).2.2)⟩
  ·rw[List.getElem?_append_right hi]at hv
   rw[List.getElem?_append_right (by rw[<-h.dvs.1];exact hi),<-h.dvs.1]at hy;rcases hj:i-V.length with _|j
   ·rw[hj]at hv hy
    simp at hv hy;subst hv;subst hy;have h4:=(h1.2.2.2.nil' ho2).own' ho3 (fun b hb=>hvS b (fun e=>by have:=hvw b e;have:=(hd1 b hb).1;omega));exact⟨h1.1,h1.2.1,h1.2.2.1,⟨h4.own,fun q hq=>Nat.le_trans h.own.size (h4.fresh q hq),h4.good⟩⟩
   ·rw[hj]at hv;simp at hv
 ·exact(h.sl.block (Option.mem_toList.1 hy)).1
 ·rcases List.mem_append.1 hv with hv|hv
  ·exact⟨(h.n2 v hv b hb).1,(h.n2 v hv b hb).2.1,hnew b (by have:=abM v hv b hb;omega) (h.n2 v hv b hb).2.2⟩
  ·simp at hv;subst hv
   have h5:=hd1 b hb;exact⟨by omega,by omega,hnew b (by omega) (fun e=>by have:=hvw b e;omega)⟩
 ·rcases hg b hb with h3|h3
  ·exact h.n3 b h3
  ·exact⟨by omega,by omega⟩
theorem O4(d:DW)(x:bQ)(wr w:World)(h:eX w d x)(ho:ai [] wr w):
  Calls Tryz.prog 62 #[.pointer (some ⟨d.blk,0,none⟩)] w fun e w'=> ∃v,e=.returned v/\ ∃a cap,v=.agg #[.string x.name,.bool x.on,.slice a x.items.length cap]/\aI wr.heap.size w' a cap x.items/\ai [] wr w':=
 (uM d x w h).mono (by
  rintro e w' ⟨a,cap,rfl,h2,h3⟩;exact⟨_,rfl,a,cap,rfl,⟨h2.own,fun q hq=>Nat.le_trans ho.size (h2.fresh q hq),h2.good⟩,ho.trans h3⟩)
def Du(g nm:ByteArray)(s:EN)(w:World)(e:Ending)(w':World):Prop:= ∃a cap vv V,e=.returned (.agg #[.string g,.string nm,.bool s.online,.int .i64 (Yw s),.int .i64 (zT s),.bool s.pending,.slice a s.items.length cap,vv])/\aI w.heap.size w' a cap s.items/\Sl 46 vX 3 w.heap.size w' vv V/\XH w.heap.size w' V s.dev/\ai [] w w'
theorem Dv{g nm:ByteArray}{s:EN}{w w':World}{a:Option Addr}{cap:Nat}{its:List bD}{vv:Value}{V:List DV}{ob pe:Bool}{bv nx:Int}(h1:s.online=ob)(h2:Yw s=bv)(h3:zT s=nx)(h4:s.pending=pe)(h5:s.items=its)
  (h:aI w.heap.size w' a cap its/\Sl 46 vX 3 w.heap.size w' vv V/\XH w.heap.size w' V s.dev/\ai [] w w'):Du g nm s w (.returned (.agg #[.string g,.string nm,.bool ob,.int .i64 bv,.int .i64 nx,.bool pe,.slice a its.length cap,vv])) w':=by
 subst h1 h2 h3 h4 h5;exact⟨a,cap,vv,V,rfl,h⟩
abbrev S5(n:Nat)(g nm:ByteArray)(on pe:Bool)(iv:Value)(W:World):Prop:=W.cell? ⟨n,0,none⟩=some (.string g)/\W.cell? ⟨n,1,none⟩=some (.string nm)/\W.cell? ⟨n,2,none⟩=some (.bool on)/\W.cell? ⟨n,5,none⟩=some (.bool pe)/\W.cell? ⟨n,6,none⟩=some iv
theorem O5(n:Nat)(g nm:ByteArray)(L:EW)(s:EN)(w:World)(h:au w n g nm L s):
  Calls Tryz.prog 25 #[.pointer (some ⟨n,0,none⟩)] w (Du g nm s w):=by
 have hln:n<w.heap.size:=aj h.row;have hil:=h.few.1;have hC:=fun W (ho:ai [] w W)=>(aM h (S:=[]) (by simp) W ho).1
 have hN: ∀W,ai [] w W->W.cell? ⟨n,0,none⟩=some (.string g)/\W.cell? ⟨n,1,none⟩=some (.string nm):=fun W ho=>⟨cell_of_row W n 0 _ _ _ (ho.heap h.row (by simp)),cell_of_row W n 1 _ _ _ (ho.heap h.row (by simp))⟩
 have cC:=fun W (ho:ai [] w W)=>nA L.ia s.items L.ic W ((h.nil' ho).its.at_ (by omega)) (by omega)
 obtain⟨da,dc,hdv⟩:=h.dvs.sl;have hX:=fun W (ho:ai [] w W)=>h.nil' ho
 rw[hdv]at hC;have hS0: ∀W,ai [] w W->S5 n g nm s.online s.pending (.slice L.ia s.items.length L.ic) W:=fun W ho=>⟨(hN W ho).1,(hN W ho).2,(hC W ho).1,(hC W ho).2.2.2.1,(hC W ho).2.2.2.2.1⟩
 have QL: ∀W,ai [] w W->W.cell? ⟨n,4,none⟩=some (.pointer (some ⟨L.rb,0,none⟩))/\W.cell? ⟨n,2,none⟩=some (.bool s.online)/\W.cell? ⟨n,3,none⟩=some (.int .i64 s.bd)/\W.cell? ⟨n,8,none⟩=some (.slice da L.ds.length dc):=fun W ho=>⟨(hC W ho).2.2.1,(hC W ho).1,(hC W ho).2.1,(hC W ho).2.2.2.2.2.2⟩
 have cW: ∀W t3 a cap,ai [] w W->W.heap[t3]?=some (.cells #[.string g,.string nm,.bool s.online,.int .i64 0,.int .i64 0,.bool s.pending,.slice a s.items.length cap,.slice none 0 0] 38 (0,0))->mJ W w.heap.size->aI w.heap.size W a cap s.items->(∀b,a.map (·.block)=some b->b≠t3/\b≠w.heap.size)->w.heap.size<t3->
   Calls Tryz.prog 61 #[.pointer (some ⟨L.rb,0,none⟩)] W fun e w'=>e=.returned (.tuple #[.int .i64 (zT s),.bool s.begun])/\w'.heap[t3]?=some (.cells #[.string g,.string nm,.bool s.online,.int .i64 0,.int .i64 0,.bool s.pending,.slice a s.items.length cap,.slice none 0 0] 38 (0,0))/\mJ w' w.heap.size/\aI w.heap.size w' a cap s.items/\(∀b,a.map (·.block)=some b->b≠t3/\b≠w.heap.size)/\w.heap.size<t3/\ai [] w w'/\w'.cell? ⟨n,2,none⟩=some (.bool s.online)/\w'.cell? ⟨n,3,none⟩=some (.int .i64 s.bd)/\w'.cell? ⟨n,8,none⟩=some (.slice da L.ds.length dc):=fun W t3 a cap ho h1 h2 h3 h4 h5=>
  (Sq.want_any L.rb s.want s.begun W (h.rrow.own ho (by simp))).mono fun e w' ⟨e1,e2⟩=>by
   subst e2;exact⟨by rw[e1];rfl,h1,h2,h3,h4,h5,ho,(QL W ho).2.1,(QL W ho).2.2.1,(QL W ho).2.2.2⟩
 have cN:=fun W (ho:ai [] w W)=>gQ n ⟨L.rb,0,none⟩ W (QL W ho).1
 unfold ny at cC;generalize hits:s.items=its at*;change Hid _ at hits;generalize hnx:zT s=nx at*;change Hid _ at hnx;generalize hpe:s.pending=pe at*;change Hid _ at hpe;generalize hbg:s.begun=bg at*;change Hid _ at hbg;generalize hon:s.online=on at*;replace hon:=af hon;generalize hbd:s.bd=bd at*;change Hid _ at hbd hS0 QL cC cW cN hX hdv;clear hC hN h hil;go_enter Tryz.func25,Tryz.ntmps25
 go_wp2_with(go_at_call 59;refine(cN.out _ ((ai.refl _ _).alloc _)).mono ?_;rintro e w1 ⟨rfl,rfl⟩)
 have hW0:ai [] w (w.alloc (.cells #[.string ⟨#[]⟩,.string ⟨#[]⟩,.bool false,.int .i64 0,.int .i64 0,.bool false,.slice none 0 0,.slice none 0 0] 38)):=(ai.refl _ _).alloc _;have Zh: ∀W,ai [] (w.alloc (.cells #[.string ⟨#[]⟩,.string ⟨#[]⟩,.bool false,.int .i64 0,.int .i64 0,.bool false,.slice none 0 0,.slice none 0 0] 38)) W->mJ W w.heap.size:=fun W ho=>U3 (ho.heap (heap_alloc_new _ _) (by simp))
 have hs0:(w.alloc (.cells #[.string ⟨#[]⟩,.string ⟨#[]⟩,.bool false,.int .i64 0,.int .i64 0,.bool false,.slice none 0 0,.slice none 0 0] 38)).heap.size=w.heap.size+1:=by simp
 generalize w.alloc (.cells #[.string ⟨#[]⟩,.string ⟨#[]⟩,.bool false,.int .i64 0,.int .i64 0,.bool false,.slice none 0 0,.slice none 0 0] 38)=w0 at*;have hZ1: ∀W,ai [] ((w0.alloc (.cells #[.string ⟨#[]⟩,.string ⟨#[]⟩,.bool false,.int .i64 0,.int .i64 0,.bool false,.slice none 0 0,.slice none 0 0] 38)).drew) W->mJ W w0.heap.size:=fun W ho=>U3 (((ai.refl [] _).drew.trans ho).heap (heap_alloc_new w0 _) (by simp))
 have hrZ:((w0.alloc (.cells #[.string ⟨#[]⟩,.string ⟨#[]⟩,.bool false,.int .i64 0,.int .i64 0,.bool false,.slice none 0 0,.slice none 0 0] 38)).drew).heap[w0.heap.size]?=some (.cells #[.string ⟨#[]⟩,.string ⟨#[]⟩,.bool false,.int .i64 0,.int .i64 0,.bool false,.slice none 0 0,.slice none 0 0] 38 (0,0)):=heap_alloc_new w0 _;change Hid _ at hrZ;have hA1:ai [] w w0.drew:=hW0.drew;have hA2:ai [] w ((w0.alloc (.cells #[.string ⟨#[]⟩,.string ⟨#[]⟩,.bool false,.int .i64 0,.int .i64 0,.bool false,.slice none 0 0,.slice none 0 0] 38)).drew):=(hW0.alloc _).drew;have hB1:=fun W (ho:ai [] w0.drew W)=>(((ai.refl [] w0).drew).trans ho)
 have hB2:=fun W (ho:ai [] ((w0.alloc (.cells #[.string ⟨#[]⟩,.string ⟨#[]⟩,.bool false,.int .i64 0,.int .i64 0,.bool false,.slice none 0 0,.slice none 0 0] 38)).drew) W)=>((((ai.refl [] w0).alloc _).drew).trans ho)
 obtain⟨i0,i1,i2,i5,i6⟩:=hS0.out _ hA1;have i4:=(QL.out _ hA1).1;have hlo:=af (show w.heap.size<=w0.heap.size by omega);have hne1:n≠w0.heap.size:=by omega
 have hne2:w.heap.size≠w0.heap.size:=by omega
 have Zi:n≠w.heap.size:=by omega
 have abN:=Ne.symm hne1;have hne5:=Ne.symm hne2;have abO:=Ne.symm Zi;change Hid _ at Zh hZ1 hs0 hB1 hB2;replace hA1:=af hA1;replace hA2:=af hA2;go_region_held3(fun W=>W.cell? ⟨n,0,none⟩=some (.string g)/\W.cell? ⟨n,1,none⟩=some (.string nm)/\W.cell? ⟨n,2,none⟩=some (.bool on)/\W.cell? ⟨n,5,none⟩=some (.bool pe)/\W.cell? ⟨n,6,none⟩=some (.slice L.ia its.length L.ic))
  (first|with_reducible exact kA|with_reducible exact hS0.out _ hA1.out|with_reducible exact hS0.out _ hA2.out|with_reducible exact hS0.out _ (dO.out.alloc _)|with_reducible exact hS0.out _ (NI dO.out (.inr hlo.out)))
  ((first
    |(go_at_call 60;(with_reducible refine(cC.out _ hA1.out).mono ?_);rintro e w3 ⟨a,cap,rfl,eP,hO3⟩;have dO:=hA1.out.trans hO3;have kA:=hS0.out _ dO;have MI:=hB1.out _ hO3;have k4:=(QL.out _ dO).1;have Ux:=af MI;have hnw:n<w3.heap.size:=Nat.lt_of_lt_of_le hln dO.size;have hzw:w.heap.size<w3.heap.size:=(by have:=MI.size;have:=hs0.out;omega);have MJ:=hO3.size;replace dO:=af dO;replace eP:=af eP;replace hO3:=af hO3)
    |(go_at_call 60;(with_reducible refine(cC.out _ hA2.out).mono ?_);rintro e w3 ⟨a,cap,rfl,eP,hO3⟩;have dO:=hA2.out.trans hO3;have kA:=hS0.out _ dO;obtain⟨⟨c0,c1,c2,c3,c4,c5,c6,c7⟩,f0,f1,f2,f3,f4,f5,f6,f7⟩:=hZ1.out _ hO3;have hrT:=af (hO3.heap hrZ.out (by simp));have WX:=af (show∀b,a.map (·.block)=some b->w0.heap.size+1<=b from fun b hb=>by cases a with|none=>cases hb|some q=>cases hb;have:=eP.fresh q rfl;simpa using this);have MI:=hB2.out _ hO3;have k4:=(QL.out _ dO).1;have Ux:=af MI;have hnw:n<w3.heap.size:=Nat.lt_of_lt_of_le hln dO.size;have hzw:w.heap.size<w3.heap.size:=(by have:=MI.size;have:=hs0.out;omega);have MJ:=hO3.size;replace dO:=af dO;replace eP:=af eP;replace hO3:=af hO3)))
 have hz1:w0.drew.heap.size=w0.heap.size:=rfl;have hoa: ∀b,a.map (·.block)=some b->w0.heap.size<=b/\b<w3.heap.size:=fun b hb=>by
  refine⟨?_,eP.out.blt hb⟩;cases a with
  |none=>cases hb
  |some q=>cases hb;have:=eP.out.fresh q rfl;simp at this;omega
 have cV:=cW.out (w3.alloc (.cells #[.string g,.string nm,.bool on,.int .i64 0,.int .i64 0,.bool pe,.slice a its.length cap,.slice none 0 0] 38)) w3.heap.size a cap (dO.out.alloc _) (heap_alloc_new _ _) (Zh.out _ (Ux.out.alloc _)) ⟨(eP.out.nil' ((ai.refl _ _).alloc _)).own,fun q hq=>Nat.le_trans hlo.out (hoa _ (by rw[hq];rfl)).1,eP.out.good⟩ (fun b hb=>by have:=hoa b hb;have:=hs0.out;omega) hzw;replace cV:=af cV;clear hoa hz1;have k5:=(QL.out _ (dO.out.alloc (.cells #[.string g,.string nm,.bool on,.int .i64 0,.int .i64 0,.bool pe,.slice a its.length cap,.slice none 0 0] 38))).1;generalize w3.heap.size=t3 at*
 rotate_left
 have hz1:w0.drew.heap.size=w0.heap.size:=rfl;have hoa: ∀b,a.map (·.block)=some b->w0.heap.size<=b/\b<w3.heap.size:=fun b hb=>by
  exact⟨by have:=WX.out b hb;omega,eP.out.blt hb⟩
 have cV:=cW.out ((((((((w3.setCell ⟨w0.heap.size,0,none⟩ (.string g)).setCell ⟨w0.heap.size,1,none⟩ (.string nm)).setCell ⟨w0.heap.size,2,none⟩ (.bool on)).setCell ⟨w0.heap.size,3,none⟩ (.int .i64 0)).setCell ⟨w0.heap.size,4,none⟩ (.int .i64 0)).setCell ⟨w0.heap.size,5,none⟩ (.bool pe)).setCell ⟨w0.heap.size,6,none⟩ (.slice a its.length cap)).setCell ⟨w0.heap.size,7,none⟩ (.slice none 0 0)) w0.heap.size a cap (NI dO.out (.inr hlo.out)) (abm hrT.out) (Zh.out _ (NI Ux.out (.inr (Nat.le_refl _)))) ⟨(eP.out.own' (NI (S:=[w0.heap.size]) (ai.refl _ _) (.inl (by simp))) (fun b hb=>by have:=WX.out b hb;simp;omega)).own,fun q hq=>Nat.le_trans hlo.out (hoa _ (by rw[hq];rfl)).1,eP.out.good⟩ (fun b hb=>by have:=WX.out b hb;have:=hs0.out;omega) (by have:=hs0.out;omega);replace cV:=af cV;clear hoa hz1;generalize w0.heap.size=t3 at*
 rotate_left
 all_goals
  cases on
 all_goals
  go_wp2_with(go_at_call 61;(with_reducible refine cV.out.mono ?_);rintro e w5 ⟨rfl,EJ,Zj,om,M9,WY,aB,j2,j3,j8⟩;obtain⟨⟨c0,c1,c2,c3,c4,c5,c6,c7⟩,f0,f1,f2,f3,f4,f5,f6,f7⟩:=JZ EJ;have ht6:=Nat.ne_of_lt WY;replace Zj:=af Zj;replace EJ:=af EJ;replace om:=af om;replace M9:=af M9;replace WY:=af WY;replace aB:=af aB)
 all_goals
  have Uy:VL w w5 w.heap.size t3 a cap its (.slice none 0 0) [] []:=⟨om.out,Sl.nil _ _ _,⟨rfl,fun i v x hv=>by simp at hv⟩,aB.out,⟨Nat.le_refl _,Nat.le_of_lt WY.out⟩,fun b hb=>⟨(M9.out b hb).2,(M9.out b hb).1,by simp[Value.ownBlock]⟩,by simp,by simp[Value.ownBlock]⟩
  first
   |(obtain⟨w6,bv,ob,hbv,XT,WQ,WZ,EA,hz6,h6⟩: ∃(w6:World) (bv:Int) (ob:Bool),bv=bd/\ob=true/\(w5.setCell ⟨t3,4,none⟩ (.int .i64 nx)).setCell ⟨t3,3,none⟩ (.int .i64 bd)=w6/\VL w w6 w.heap.size t3 a cap its (.slice none 0 0) [] []/\w6.heap[t3]?=some (.cells #[.string g,.string nm,.bool ob,.int .i64 bv,.int .i64 nx,.bool pe,.slice a its.length cap,.slice none 0 0] 38 (0,0))/\mJ w6 w.heap.size/\w.heap.size<w6.heap.size/\t3<w6.heap.size:=by
      have hO:ai [t3] w5 ((w5.setCell ⟨t3,4,none⟩ (.int .i64 nx)).setCell ⟨t3,3,none⟩ (.int .i64 bd)):=((ai.refl _ _).setCell (.inl (by simp)) _).setCell (.inl (by simp)) _;refine⟨_,bd,true,rfl,rfl,rfl,Uy.own' hO (by simp),heap_setCell_same _ _ _ _ _ _ (heap_setCell_same _ _ _ _ _ _ EJ.out),?_,?_,?_⟩
      ·exact Bd Zj.out hO (by simpa using ht6)
      ·have:=hO.size;have:=aj EJ.out;have:=WY.out;omega
      ·have:=hO.size;have:=aj EJ.out;omega
     rw[WQ])
   |(obtain⟨w6,bv,ob,hbv,XT,WQ,WZ,EA,hz6,h6⟩: ∃(w6:World) (bv:Int) (ob:Bool),bv=0/\ob=false/\w5.setCell ⟨t3,4,none⟩ (.int .i64 nx)=w6/\VL w w6 w.heap.size t3 a cap its (.slice none 0 0) [] []/\w6.heap[t3]?=some (.cells #[.string g,.string nm,.bool ob,.int .i64 bv,.int .i64 nx,.bool pe,.slice a its.length cap,.slice none 0 0] 38 (0,0))/\mJ w6 w.heap.size/\w.heap.size<w6.heap.size/\t3<w6.heap.size:=by
      have hO:ai [t3] w5 (w5.setCell ⟨t3,4,none⟩ (.int .i64 nx)):=(ai.refl _ _).setCell (.inl (by simp)) _;refine⟨_,0,false,rfl,rfl,rfl,Uy.own' hO (by simp),heap_setCell_same _ _ _ _ _ _ EJ.out,?_,?_,?_⟩
      ·exact Bd Zj.out hO (by simpa using ht6)
      ·have:=hO.size;have:=aj EJ.out;have:=WY.out;omega
      ·have:=hO.size;have:=aj EJ.out;omega
     rw[WQ])
 all_goals
  have hDL:=af (hX.out w (ai.refl _ _)).len;have hD4:L.ds.length<=4:=by have:=(hX.out w (ai.refl _ _)).few.2.2;have:=hDL.out;omega
  have hrt:w.heap.size≠t3:=ht6;change Hid _ at hbv XT hrt;clear Uy WQ EJ Zj om M9 WY aB j2 j3 j8 c0 c1 c2 c3 c4 c5 c6 c7 f0 f1 f2 f3 f4 f5 f6 f7 ht6 cV i0 i1 i2 i4 i5 i6 hne1 hne2 Zi abN hne5 abO kA k4 MI Ux hnw hzw MJ dO eP hO3 hB1 hB2 Zh hZ1 hs0 hA1 hA2 hrZ hlo hW0 cC cN hS0 QL cW hln;go_loopg[54] L.ds.length (fun m s54 wr=> ∃(k:Nat) (vv:Value) (V:List DV),k<=L.ds.length/\m=L.ds.length-k/\s54=.int .i64 k/\
   Aside (VL w wr w.heap.size t3 a cap its vv V (s.dev.take k)/\wr.heap[t3]?=some (.cells #[.string g,.string nm,.bool ob,.int .i64 bv,.int .i64 nx,.bool pe,.slice a its.length cap,vv] 38 (0,0))/\mJ wr w.heap.size/\(w.heap.size<wr.heap.size/\t3<wr.heap.size)))
  case atStart=>exact⟨0,_,[],Nat.zero_le _,rfl,rfl,by simpa using WZ,EA,hz6,h6⟩
  case round=>
   obtain⟨k,vv,V,hk,rfl,rfl,hV,hr,hz,hl⟩:=hrel;by_cases hlt:k<L.ds.length
   ·have hkx:k<s.dev.length:=by rw[hDL.out];exact hlt
    have hE:=hX.out wr hV.own;have Zk:=hE.devs k _ _ (List.getElem?_eq_getElem hlt) (List.getElem?_eq_getElem hkx);have hdr:ai [] wr wr.drew:=(ai.refl _ _).drew;have cD:=O4 L.ds[k] s.dev[k] wr wr.drew (Zk.nil' hdr) hdr;have eD: ∀args w,(callFunc 62 args).run Tryz.prog w=.ok (.enter 62 args) w:=enters_of Tryz.func62 (by kernel_rfl) rfl;obtain⟨gb,hgb⟩: ∃gb,da=some ⟨gb,0,none⟩/\wr.cell? ⟨gb,k,none⟩=some (.pointer (some ⟨L.ds[k].blk,0,none⟩)):=by
     rcases hE.dvs.form with⟨h1,h2⟩|⟨gb,cp,h1,_,hR⟩
     ·rw[h2]at hlt;simp at hlt
     ·rw[hdv.out]at h1
      cases h1;have:=hR.cell sZ (List.getElem?_eq_getElem hlt) (show(gZ L.ds[k])[0]?=_ from rfl);exact⟨gb,rfl,by simpa using this⟩
    obtain⟨rfl,hcell⟩:=hgb;obtain⟨sa,sc,rfl⟩:=hV.sl.sl;have h7: ∀W,ai [] wr W->W.cell? ⟨t3,7,none⟩=some (.slice sa V.length sc):=fun W ho=>cell_of_row W t3 7 _ _ _ (ho.heap hr (by simp))
    have h7d:=h7 _ hdr;have hvl:V.length<=4:=by have:=hV.dvs.1;simp at this;omega
    have htk:s.dev.take (k+1)=s.dev.take k++[s.dev[k]]:=by rw[List.take_succ_eq_append_getElem hkx]
    generalize s.dev[k]=x at*;generalize hdb:L.ds[k].blk=db at*;change Hid _ at htk hr hz hl cD eD h7;replace hV:=af hV;have hl1:=af (show(V.length+1)*48<=140737488355328 by omega);have hl2:=af (show V.length+1<=maxLen by unfold maxLen;omega);clear Zk hE hdr WZ EA hz6 h6 hdb;go_wp2_with fail
    go_region_law((first
     |((refine NU rfl 62 _ _ (by rfl) (by simp[Act.eval,Act.put]) eD.out cD.out ?_);intro va wa hva;obtain⟨ad,cd,rfl,hRa,zk⟩:=hva;have kA:=h7.out wa zk;have kB:=h7.out _ (zk.alloc (.cells #[.string x.name,.bool x.on,.slice ad x.items.length cd] 46));have hRb:=aA.new (enc:=vX) (T:=46) wa ⟨x.name,x.on,ad,x.items.length,cd⟩ 1;replace hRb:=af hRb;have hOb:=af (hV.out.own.trans (zk.alloc (.cells #[.string x.name,.bool x.on,.slice ad x.items.length cd] 46)));have hSb:=af (hV.out.sl.nil' (zk.alloc (.cells #[.string x.name,.bool x.on,.slice ad x.items.length cd] 46)));replace hRa:=af hRa;replace zk:=af zk)
     |((refine FK rfl (.tmp 59) (.tmp 62) (by rfl) Yx hOb.out (by rfl) hSb.out (by rfl) hRb.out (by simpa using hl1.out) (by simpa using hl2.out) ?_);intro va w5 hS5 aB hg5 gW;obtain⟨a5,c5,rfl⟩:=hS5.sl;rw[List.length_append,List.length_singleton]at hS5 hg5;have EJ:=gW.heap ((zk.out.alloc (.cells #[.string x.name,.bool x.on,.slice ad x.items.length cd] 46)).heap hr.out (by simp)) (fun hx=>(hV.out.n3 _ (Option.mem_toList.1 hx)).2 rfl);have kC:w5.cell? ⟨t3,7,none⟩=some (.slice sa V.length sc):=cell_of_row w5 t3 7 _ _ _ EJ;have f5:w5.frozen? ⟨t3,7,none⟩=false:=frozen_of_row _ _ _ _ _ EJ;replace hS5:=af hS5;replace aB:=af aB;replace hg5:=af hg5;replace gW:=af gW;replace EJ:=af EJ)))
    all_goals
     have hVp:=hV.out.push hl.out ⟨rfl,rfl,rfl,hRa.out⟩ zk.out ((ai.refl _ _).alloc _) hS5.out gW.out hg5.out;have MK:ai [t3] w5 (w5.setCell ⟨t3,7,none⟩ (.slice a5 (V.length+1) c5)):=(ai.refl _ _).setCell (.inl (by simp)) _;have X0:=hVp.own' MK (by simp);have MX:=heap_setCell_same _ _ 7 _ _ (.slice a5 (V.length+1) c5) EJ.out;have hOz:ai (Value.slice sa V.length sc).ownBlock.toList wr w5:=(zk.out.nil.trans ((ai.refl _ _).alloc _).nil).trans gW.out;have hz7:=Bd (Bd hz.out hOz (fun hx=>(hV.out.n3 _ (Option.mem_toList.1 hx)).1 rfl)) MK (by simpa using hrt.out);have hs7:=Nat.le_trans hOz.size MK.size;rw[<-htk.out]at X0;have hfin:=af (And.intro X0 (And.intro MX (And.intro hz7 (And.intro (Nat.lt_of_lt_of_le hl.out.1 hs7) (Nat.lt_of_lt_of_le hl.out.2 hs7)))));clear hVp MK X0 MX hOz hz7 hs7 kA kB kC f5;go_wp2_with fail
     go_roundg(L.ds.length-(k+1))
     case rel=>exact⟨k+1,_,_,by omega,rfl,by go_num,hfin.out⟩
     case measure=>omega
   ·have hke:k=L.ds.length:=by omega
    have hte:s.dev.take k=s.dev:=List.take_of_length_le (by rw[hDL.out];omega);rw[hte]at hV;obtain⟨sa,sc,rfl⟩:=hV.sl.sl;have hfin: ∀w',ai [w.heap.size] wr w'->aI w.heap.size w' a cap its/\Sl 46 vX 3 w.heap.size w' (.slice sa V.length sc) V/\XH w.heap.size w' V s.dev/\ai [] w w':=fun w' ho=>by
     have:=hV.own' ho (by simp);exact⟨this.out,this.sl,this.dvs,this.own⟩
    change Hid _ at hfin;obtain⟨⟨c0,c1,c2,c3,c4,c5,c6,c7⟩,f0,f1,f2,f3,f4,f5,f6,f7⟩:=JZ hr;obtain⟨⟨d0,d1,d2,d3,d4,d5,d6,d7⟩,e0,e1,e2,e3,e4,e5,e6,e7⟩:=hz;have aer:=hrt.out;change Hid _ at hke;clear hV hr hte hl WZ EA hz6 h6;go_wp2_with fail
    refine bodyPost_ret (v:=.agg #[.string g,.string nm,.bool ob,.int .i64 bv,.int .i64 nx,.bool pe,.slice a its.length cap,.slice sa V.length sc]) (by simp[results,Tryz.results25,go_sem,d0,d1,d2,d3,d4,d5,d6,d7]) rfl (Dv (hon.out.trans XT.out.symm) (by unfold Yw;rw[hon.out,hbv.out];first|rfl|(rw[hbd.out];rfl)) hnx.out hpe.out hits.out (hfin.out _ ?_))
    repeat(first|refine ai.setCell ?_ (.inl (by simp)) _|with_reducible exact ai.refl _ _)
end Go.Proofs.YtedcakchekaemaaGreatDoor
