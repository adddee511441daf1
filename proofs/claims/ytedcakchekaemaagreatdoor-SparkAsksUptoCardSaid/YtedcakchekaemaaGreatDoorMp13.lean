/- Contracts of the program, part 13. -/
import Derived.Test.YtedcakchekaemaaGreatDoorMp10
import Derived.Sort.Walk0
set_option maxRecDepth 100000
set_option maxHeartbeats 16000000
set_option linter.all false
namespace Go.Proofs.YtedcakchekaemaaGreatDoor
open Go.RowKit
theorem Rb(n:Nat)(g nm:ByteArray)(L:EW)(s:EN)(dn:ByteArray)(p:iI)(w:World)(h:au w n g nm L s)(hM:eF w p.a p.M)(h0:0<=p.s)(hE:jP w):
  Calls Tryz.prog 216 #[.pointer (some ⟨n,0,none⟩),.string dn,p.val] w (dQ n g nm L (vD s p) w):=by
 have hW0:=dS w p;have hP:=fun W (ho:ai [] (eG w p) W)=>bH w p (S:=[]) (by simp) W ho
 have hC:=fun W (ho:ai [] w W)=>aR h (S:=[]) (by simp) W ho
 have hsame:=fun W (ho:ai [] w W)=>h.same ho
 have cF:=fun W (ho:ai [] w W)=>wU n g nm L s p W (h.nil' ho) h0
 have hil:s.items.length<=32:=h.few.1;have cU:=fun W (ho:ai [] w W)=>Eo L.ia s.items L.ic p.a p.M p.c L.tb L.tm s.al iP W ((h.nil' ho).its.at_ (by omega)) (hM.nil' ho) (h.tab.own ho (by simp) (by simp)) (by omega) (hE.nil ho)
 have Gl:=Bc (gK s.al iP) p.M s.items;have cK:=fun W L' s' (hk:au W n g nm L' s') (hf:iU s' p=true)=>sN n g nm L' s' p W hk h0 hf
 have hset:=fun W a cap l (ho:ai [] w W) (hR:aM w.heap.size W a cap l) (hl:l.length<=32)=>h.setItems (a:=a) (cap:=cap) ho hR hl
 unfold dQ vD;unfold lD at cU;have hv:p.val=.agg #[.int .u64 p.t,.bool p.h,.int .u64 p.s,.string p.u,.string p.b,.slice p.a p.M.length p.c]:=rfl;rw[hv]at cF cK⊢;simp only[eG]at hW0 hP;generalize fZ (gK s.al iP) p.M s.items=up at*;obtain⟨up1,up2⟩:=up;unfold iP at*;simp only at*;obtain⟨⟨k2,k3,k4,k5,k6,k7,k8⟩,_⟩:=hC _ hW0;cases hon:s.online with
 |false=>
  rw[if_pos rfl];rw[hon]at k2;change Hid _ at hsame;replace hW0:=af hW0;clear cF cU cK hset hC hP h hM hE hon;go_enter Tryz.func216,Tryz.ntmps216
  go_wp2_with fail
  go_ret
  exact⟨rfl,hsame.out _ hW0.out⟩
 |true=>
  rw[if_neg (by simp)];rw[hon]at k2;obtain⟨q0,q1,q2,q3,q4,q5⟩:=hP _ (ai.refl _ _);have Ld:=cF _ hW0;cases hft:iU s p with
  |false=>
   rw[if_pos rfl];rw[hft]at Ld;change Hid _ at hsame;replace hW0:=af hW0;replace Ld:=af Ld;clear cF cU cK hset hC hP h hM hE hon hft;go_enter Tryz.func216,Tryz.ntmps216
   go_wp2_with(go_at_call 267;(with_reducible refine Ld.out.mono ?_);rintro e w2 ⟨rfl,hO2⟩;replace hO2:=af (hW0.out.trans hO2))
   go_ret
   exact⟨rfl,hsame.out _ hO2.out⟩
  |true=>
   rw[if_neg (by simp)];rw[hft]at Ld;change Hid _ at hP hC cU cK hset hsame;replace Ld:=af Ld;have oh:=af hW0;have JY:=af hon;have UE:=af hft;clear cF h hM hE hon hft hW0;by_cases hu:up1=1
   ·subst hu
    rw[if_neg (by simp)];have aaE:=af (Nat.le_trans Gl hil);clear Gl hil;go_enter Tryz.func216,Tryz.ntmps216
    go_wp2_with(go_at_call 267;(with_reducible refine Ld.out.mono ?_);rintro e w2 ⟨rfl,hO2⟩;have hX2:=oh.out.trans hO2;obtain⟨⟨l2,l3,l4,l5,l6,l7,l8⟩,_⟩:=hC.out _ hX2;obtain⟨r0,r1,r2,r3,r4,r5⟩:=hP.out _ hO2;have cU2:=af (cU.out _ hX2.drew);replace hX2:=af hX2;replace hO2:=af hO2)
    go_region_with((go_at_call 268;(with_reducible refine cU2.out.mono ?_);rintro e w3 ⟨a,cap,rfl,fB,hO3⟩;have fC:=hX2.out.drew.trans hO3;obtain⟨_,z2,z3,z5,z6,z7,z8⟩:=hC.out _ fC;have UD:aM w.heap.size w3 a cap up2:=⟨fB.own,fun q hq=>Nat.le_trans hX2.out.size (fB.fresh q hq),fB.good⟩;obtain⟨jL,hO4,hfe⟩:=hset.out _ a cap up2 fC UD aaE.out;have hP3:=hP.out _ ((hO2.out.drew).trans hO3);have cK3:=af (cK.out _ _ _ jL UE.out);replace fC:=af fC;replace hO4:=af hO4;replace hfe:=af hfe;replace jL:=af jL;obtain⟨m0,m1,m2,m3,m4,m5⟩:=hP3;clear fB UD))
    all_goals
     go_wp2_with(go_at_call 269;(with_reducible refine cK3.out.mono ?_);rintro e w5 ⟨rfl,iZ,aF⟩;replace iZ:=af iZ;replace aF:=af aF)
     go_ret
     have Gm:=iZ.out;rw[JY.out]at Gm;refine⟨rfl,_,Gm,?_,hfe.out⟩;have h1:ai (L.feet n) w _:=fC.out.nil.trans (hO4.out.mono (fun x hx=>by simp at hx;subst hx;unfold EW.feet;simp));exact h1.trans (aF.out.mono (fun x hx=>by simp at hx;subst hx;unfold EW.feet;simp))
   ·rw[if_pos hu]
    have hu1:(up1 !=1)=true:=by simpa using hu
    clear hu Gl hil cK hset;go_enter Tryz.func216,Tryz.ntmps216
    go_wp2_with(go_at_call 267;(with_reducible refine Ld.out.mono ?_);rintro e w2 ⟨rfl,hO2⟩;have hX2:=oh.out.trans hO2;obtain⟨⟨l2,l3,l4,l5,l6,l7,l8⟩,_⟩:=hC.out _ hX2;obtain⟨r0,r1,r2,r3,r4,r5⟩:=hP.out _ hO2;have cU2:=af (cU.out _ hX2.drew);replace hX2:=af hX2;replace hO2:=af hO2)
    go_region_with((go_at_call 268;(with_reducible refine cU2.out.mono ?_);rintro e w3 ⟨a,cap,rfl,fB,hO3⟩;have fC:=hX2.out.drew.trans hO3;replace fC:=af fC;clear fB))
    all_goals
     go_wp2_with fail
     go_ret
     exact⟨rfl,hsame.out _ fC.out⟩
def YP(s:EN):Int:=if s.online=true then s.bd else 0
def vM(s:EN):Int:=if s.begun=true then s.want else 0
def nW(w:World)(b:Nat):Prop:=(w.cell? ⟨b,0,none⟩=some (.string ⟨#[]⟩)/\w.cell? ⟨b,1,none⟩=some (.string ⟨#[]⟩)/\w.cell? ⟨b,2,none⟩=some (.bool false)/\w.cell? ⟨b,3,none⟩=some (.int .i64 0)/\w.cell? ⟨b,4,none⟩=some (.int .i64 0)/\w.cell? ⟨b,5,none⟩=some (.bool false)/\w.cell? ⟨b,6,none⟩=some (.slice none 0 0)/\w.cell? ⟨b,7,none⟩=some (.slice none 0 0))/\
 (w.frozen? ⟨b,0,none⟩=false/\w.frozen? ⟨b,1,none⟩=false/\w.frozen? ⟨b,2,none⟩=false/\w.frozen? ⟨b,3,none⟩=false/\w.frozen? ⟨b,4,none⟩=false/\w.frozen? ⟨b,5,none⟩=false/\w.frozen? ⟨b,6,none⟩=false/\w.frozen? ⟨b,7,none⟩=false)
theorem YQ{w:World}{b:Nat}(h:w.heap[b]?=some (.cells #[.string ⟨#[]⟩,.string ⟨#[]⟩,.bool false,.int .i64 0,.int .i64 0,.bool false,.slice none 0 0,.slice none 0 0] 38 (0,0))):nW w b:=LW h
theorem afb{w:World}{b:Nat}{T:TypeId}{u0 u1 u2 u3 u4 u5 u6 u7 v0 v1 v2 v3 v4 v5 v6 v7:Value}(h:w.heap[b]?=some (.cells #[u0,u1,u2,u3,u4,u5,u6,u7] T (0,0))):
  ((((((((w.setCell ⟨b,0,none⟩ v0).setCell ⟨b,1,none⟩ v1).setCell ⟨b,2,none⟩ v2).setCell ⟨b,3,none⟩ v3).setCell ⟨b,4,none⟩ v4).setCell ⟨b,5,none⟩ v5).setCell ⟨b,6,none⟩ v6).setCell ⟨b,7,none⟩ v7).heap[b]?=some (.cells #[v0,v1,v2,v3,v4,v5,v6,v7] T (0,0)):=by
 have h0:(w.setCell ⟨b,0,none⟩ v0).heap[b]?=some (.cells #[v0,u1,u2,u3,u4,u5,u6,u7] T (0,0)):=heap_setCell_same _ _ _ _ _ _ h;have h1:((w.setCell ⟨b,0,none⟩ v0).setCell ⟨b,1,none⟩ v1).heap[b]?=some (.cells #[v0,v1,u2,u3,u4,u5,u6,u7] T (0,0)):=heap_setCell_same _ _ _ _ _ _ h0;have h2:(((w.setCell ⟨b,0,none⟩ v0).setCell ⟨b,1,none⟩ v1).setCell ⟨b,2,none⟩ v2).heap[b]?=some (.cells #[v0,v1,v2,u3,u4,u5,u6,u7] T (0,0)):=heap_setCell_same _ _ _ _ _ _ h1;have h3:((((w.setCell ⟨b,0,none⟩ v0).setCell ⟨b,1,none⟩ v1).setCell ⟨b,2,none⟩ v2).setCell ⟨b,3,none⟩ v3).heap[b]?=some (.cells #[v0,v1,v2,v3,u4,u5,u6,u7] T (0,0)):=heap_setCell_same _ _ _ _ _ _ h2;have h4:(((((w.setCell ⟨b,0,none⟩ v0).setCell ⟨b,1,none⟩ v1).setCell ⟨b,2,none⟩ v2).setCell ⟨b,3,none⟩ v3).setCell ⟨b,4,none⟩ v4).heap[b]?=some (.cells #[v0,v1,v2,v3,v4,u5,u6,u7] T (0,0)):=heap_setCell_same _ _ _ _ _ _ h3;have h5:((((((w.setCell ⟨b,0,none⟩ v0).setCell ⟨b,1,none⟩ v1).setCell ⟨b,2,none⟩ v2).setCell ⟨b,3,none⟩ v3).setCell ⟨b,4,none⟩ v4).setCell ⟨b,5,none⟩ v5).heap[b]?=some (.cells #[v0,v1,v2,v3,v4,v5,u6,u7] T (0,0)):=heap_setCell_same _ _ _ _ _ _ h4;have h6:(((((((w.setCell ⟨b,0,none⟩ v0).setCell ⟨b,1,none⟩ v1).setCell ⟨b,2,none⟩ v2).setCell ⟨b,3,none⟩ v3).setCell ⟨b,4,none⟩ v4).setCell ⟨b,5,none⟩ v5).setCell ⟨b,6,none⟩ v6).heap[b]?=some (.cells #[v0,v1,v2,v3,v4,v5,v6,u7] T (0,0)):=heap_setCell_same _ _ _ _ _ _ h5;have h7:((((((((w.setCell ⟨b,0,none⟩ v0).setCell ⟨b,1,none⟩ v1).setCell ⟨b,2,none⟩ v2).setCell ⟨b,3,none⟩ v3).setCell ⟨b,4,none⟩ v4).setCell ⟨b,5,none⟩ v5).setCell ⟨b,6,none⟩ v6).setCell ⟨b,7,none⟩ v7).heap[b]?=some (.cells #[v0,v1,v2,v3,v4,v5,v6,v7] T (0,0)):=heap_setCell_same _ _ _ _ _ _ h6;exact h7
theorem CF{S:List Nat}{w w':World}{b:Nat}(h:nW w b)(ho:ai S w w')(hb:b∉S):nW w' b:=by
 obtain⟨⟨h0,h1,h2,h3,h4,h5,h6,h7⟩,g0,g1,g2,g3,g4,g5,g6,g7⟩:=h;have hl:=block_lt_of_cell h0;have hc: ∀o v,w.cell? ⟨b,o,none⟩=some v->w'.cell? ⟨b,o,none⟩=some v:=fun o v h=>(ho.cell (p:=⟨b,o,none⟩) hl hb).trans h
 have hf: ∀o,w.frozen? ⟨b,o,none⟩=false->w'.frozen? ⟨b,o,none⟩=false:=fun o h=>(World.frozen?_of_block (w:=w) (ho.block b hl hb)).trans h
 exact⟨⟨hc _ _ h0,hc _ _ h1,hc _ _ h2,hc _ _ h3,hc _ _ h4,hc _ _ h5,hc _ _ h6,hc _ _ h7⟩,hf _ g0,hf _ g1,hf _ g2,hf _ g3,hf _ g4,hf _ g5,hf _ g6,hf _ g7⟩
structure DV where
 name:ByteArray
 on:Bool
 a:Option Addr
 n:Nat
 cap:Nat
def xS(v:DV):List Value:=[.string v.name,.bool v.on,.slice v.a v.n v.cap]
theorem EX(v:DV):(xS v).length=3:=rfl
theorem ZH:(Tryz.prog.info? 46).map (fun i=>(i.zero,i.size,i.bytes))=some (some (.agg #[.string ⟨#[]⟩,.bool false,.slice none 0 0]),3,48):=by kernel_rfl
theorem ab3:jG Tryz.prog 36 46 xS 3 48 where
 ut:=Tryz.underlying36
 info:=by obtain⟨i,h1,h2,h3,h4⟩:=info_parts ZH;exact⟨i,_,h1,h2,h3,h4,rfl⟩
 pos:=by omega
 len:=EX
 one x u hu:=by simp[xS]at hu;rcases hu with rfl|rfl|rfl<;>rfl
def DVs(B:Nat)(w:World)(V:List DV)(X:List bS):Prop:=V.length=X.length/\ ∀(i:Nat) v x,V[i]?=some v->X[i]?=some x->v.name=x.name/\v.on=x.on/\v.n=x.items.length/\aM B w v.a v.cap x.items
structure VL (w wr:World) (r t:Nat) (a:Option Addr) (cap:Nat) (its:List bJ) (vv:Value) (V:List DV) (X:List bS):Prop where
 out:aM w.heap.size wr a cap its
 sl:Sl 46 xS 3 w.heap.size wr vv V
 dvs:DVs w.heap.size wr V X
 own:ai [] w wr
 ge:w.heap.size<=r/\w.heap.size<=t
 n1: ∀b,a.map (·.block)=some b->b≠r/\b≠t/\vv.ownBlock≠some b
 n2: ∀v∈V,∀b,v.a.map (·.block)=some b->b≠r/\b≠t/\vv.ownBlock≠some b
 n3: ∀b,vv.ownBlock=some b->b≠r/\b≠t
theorem VL.own'{S:List Nat}{w wr w':World}{r t:Nat}{a:Option Addr}{cap:Nat}{its:List bJ}{vv:Value}{V:List DV}{X:List bS}(h:VL w wr r t a cap its vv V X)(ho:ai S wr w')(hS: ∀x∈S,x=r\/x=t):VL w w' r t a cap its vv V X:=by
 have hno: ∀b,b≠r->b≠t->b∉S:=fun b h1 h2 hx=>by rcases hS b hx with h|h;exact h1 h;exact h2 h
 refine⟨h.out.own' ho (fun b hb=>hno b (h.n1 b hb).1 (h.n1 b hb).2.1),h.sl.own ho (fun b hb=>hno b (h.n3 b hb).1 (h.n3 b hb).2),⟨h.dvs.1,fun i v x hv hx=>?_⟩,h.own.trans' ho (fun x hx=>.inr ?_),h.ge,h.n1,h.n2,h.n3⟩
 ·obtain⟨k1,k2,k3,k4⟩:=h.dvs.2 i v x hv hx
  have:=h.n2 v (List.mem_of_getElem? hv);exact⟨k1,k2,k3,k4.own' ho (fun b hb=>hno b (this b hb).1 (this b hb).2.1)⟩
 ·rcases hS x hx with h1|h1
  ·rw[h1];exact h.ge.1
  ·rw[h1];exact h.ge.2
theorem oM{B:Nat}{w:World}{a:Option Addr}{cap:Nat}{L:List bJ}(h:aM B w a cap L): ∀b,a.map (·.block)=some b->B<=b/\b<w.heap.size:=fun b hb=>by
 refine⟨?_,h.blt hb⟩;cases a with
 |none=>cases hb
 |some q=>cases hb;exact h.fresh q rfl
theorem VL.push{w wr w1 w2 w3:World}{r t:Nat}{a:Option Addr}{cap:Nat}{its:List bJ}{vv v3:Value}{V:List DV}{X:List bS}{x:bS}{d:DV}(h:VL w wr r t a cap its vv V X)(hrt:r<wr.heap.size/\t<wr.heap.size)
  (h1:d.name=x.name/\d.on=x.on/\d.n=x.items.length/\aM wr.heap.size w1 d.a d.cap x.items)(ho1:ai [] wr w1)(ho2:ai [] w1 w2)(hS:Sl 46 xS 3 w.heap.size w3 v3 (V++[d]))
  (ho3:ai vv.ownBlock.toList w2 w3)(hg: ∀g,v3.ownBlock=some g->vv.ownBlock=some g\/w2.heap.size<=g):VL w w3 r t a cap its v3 (V++[d]) (X++[x]):=by
 have hlt:=fun b hb=>(oM h.out b hb).2
 have hsz1:=ho1.size;have hsz2:=ho2.size;have OJ:ai [] wr w2:=ho1.trans ho2;have hvS: ∀b,vv.ownBlock≠some b->b∉vv.ownBlock.toList:=fun b hb hx=>hb (Option.mem_toList.1 hx)
 have hnew: ∀b,b<w2.heap.size->vv.ownBlock≠some b->v3.ownBlock≠some b:=fun b hb h1 h2=>by
  rcases hg b h2 with h3|h3
  ·exact h1 h3
  ·omega
 have afB: ∀v∈V,∀b,v.a.map (·.block)=some b->b<wr.heap.size:=fun v hv b hb=>by
  obtain⟨i,hi⟩:=List.getElem?_of_mem hv;have hil:i<X.length:=by rw[<-h.dvs.1];exact(List.getElem?_eq_some_iff.1 hi).1
  exact(oM (h.dvs.2 i v _ hi (List.getElem?_eq_getElem hil)).2.2.2 b hb).2
 have hd1:=oM h1.2.2.2;have hvw: ∀b,vv.ownBlock=some b->b<wr.heap.size:=fun b hb=>(h.sl.block hb).2
 refine⟨(h.out.nil' OJ).own' ho3 (fun b hb=>hvS b (h.n1 b hb).2.2),hS,⟨by simp[h.dvs.1],fun i v y hv hy=>?_⟩,(h.own.trans OJ).trans' ho3 (fun y hy=>.inr ?_),h.ge,fun b hb=>⟨(h.n1 b hb).1,(h.n1 b hb).2.1,hnew b (by have:=hlt b hb;omega) (h.n1 b hb).2.2⟩,fun v hv b hb=>?_,fun b hb=>?_⟩
 ·rcases Nat.lt_or_ge i V.length with hi|hi
  ·rw[List.getElem?_append_left hi]at hv
   rw[List.getElem?_append_left (by rw[<-h.dvs.1];exact hi)]at hy;obtain⟨k1,k2,k3,k4⟩:=h.dvs.2 i v y hv hy;exact⟨k1,k2,k3,(k4.nil' OJ).own' ho3 (fun b hb=>hvS b ((h.n2 v (List.mem_of_getElem? hv)) b hb).2.2)⟩
  ·rw[List.getElem?_append_right hi]at hv
   rw[List.getElem?_append_right (by rw[<-h.dvs.1];exact hi),<-h.dvs.1]at hy;rcases hj:i-V.length with _|j
   ·rw[hj]at hv hy
    simp at hv hy;subst hv;subst hy;have h4:=(h1.2.2.2.nil' ho2).own' ho3 (fun b hb=>hvS b (fun e=>by have:=hvw b e;have:=(hd1 b hb).1;omega));exact⟨h1.1,h1.2.1,h1.2.2.1,⟨h4.own,fun q hq=>Nat.le_trans h.own.size (h4.fresh q hq),h4.good⟩⟩
   ·rw[hj]at hv;simp at hv
 ·exact(h.sl.block (Option.mem_toList.1 hy)).1
 ·rcases List.mem_append.1 hv with hv|hv
  ·exact⟨(h.n2 v hv b hb).1,(h.n2 v hv b hb).2.1,hnew b (by have:=afB v hv b hb;omega) (h.n2 v hv b hb).2.2⟩
  ·simp at hv;subst hv
   have h5:=hd1 b hb;exact⟨by omega,by omega,hnew b (by omega) (fun e=>by have:=hvw b e;omega)⟩
 ·rcases hg b hb with h3|h3
  ·exact h.n3 b h3
  ·exact⟨by omega,by omega⟩
theorem Rf(d:DW)(x:bS)(wr w:World)(h:fF w d x)(ho:ai [] wr w):
  Calls Tryz.prog 62 #[.pointer (some ⟨d.blk,0,none⟩)] w fun e w'=> ∃v,e=.returned v/\ ∃a cap,v=.agg #[.string x.name,.bool x.on,.slice a x.items.length cap]/\aM wr.heap.size w' a cap x.items/\ai [] wr w':=
 (wK d x w h).mono (by
  rintro e w' ⟨a,cap,rfl,h2,h3⟩;exact⟨_,rfl,a,cap,rfl,⟨h2.own,fun q hq=>Nat.le_trans ho.size (h2.fresh q hq),h2.good⟩,ho.trans h3⟩)
def EY(g nm:ByteArray)(s:EN)(w:World)(e:Ending)(w':World):Prop:= ∃a cap vv V,e=.returned (.agg #[.string g,.string nm,.bool s.online,.int .i64 (YP s),.int .i64 (vM s),.bool s.pending,.slice a s.items.length cap,vv])/\aM w.heap.size w' a cap s.items/\Sl 46 xS 3 w.heap.size w' vv V/\DVs w.heap.size w' V s.dev/\ai [] w w'
theorem EZ{g nm:ByteArray}{s:EN}{w w':World}{a:Option Addr}{cap:Nat}{its:List bJ}{vv:Value}{V:List DV}{ob pe:Bool}{bv nx:Int}(h1:s.online=ob)(h2:YP s=bv)(h3:vM s=nx)(h4:s.pending=pe)(h5:s.items=its)
  (h:aM w.heap.size w' a cap its/\Sl 46 xS 3 w.heap.size w' vv V/\DVs w.heap.size w' V s.dev/\ai [] w w'):EY g nm s w (.returned (.agg #[.string g,.string nm,.bool ob,.int .i64 bv,.int .i64 nx,.bool pe,.slice a its.length cap,vv])) w':=by
 subst h1 h2 h3 h4 h5;exact⟨a,cap,vv,V,rfl,h⟩
abbrev S5(n:Nat)(g nm:ByteArray)(on pe:Bool)(iv:Value)(W:World):Prop:=W.cell? ⟨n,0,none⟩=some (.string g)/\W.cell? ⟨n,1,none⟩=some (.string nm)/\W.cell? ⟨n,2,none⟩=some (.bool on)/\W.cell? ⟨n,5,none⟩=some (.bool pe)/\W.cell? ⟨n,6,none⟩=some iv
theorem Rh(n:Nat)(g nm:ByteArray)(L:EW)(s:EN)(w:World)(h:au w n g nm L s):
  Calls Tryz.prog 25 #[.pointer (some ⟨n,0,none⟩)] w (EY g nm s w):=by
 have hln:n<w.heap.size:=aj h.row;have hil:=h.few.1;have hC:=fun W (ho:ai [] w W)=>(aR h (S:=[]) (by simp) W ho).1
 have hN: ∀W,ai [] w W->W.cell? ⟨n,0,none⟩=some (.string g)/\W.cell? ⟨n,1,none⟩=some (.string nm):=fun W ho=>⟨cell_of_row W n 0 _ _ _ (ho.heap h.row (by simp)),cell_of_row W n 1 _ _ _ (ho.heap h.row (by simp))⟩
 have cC:=fun W (ho:ai [] w W)=>oF L.ia s.items L.ic W ((h.nil' ho).its.at_ (by omega)) (by omega)
 obtain⟨da,dc,hdv⟩:=h.dvs.sl;have hX:=fun W (ho:ai [] w W)=>h.nil' ho
 rw[hdv]at hC;have hS0: ∀W,ai [] w W->S5 n g nm s.online s.pending (.slice L.ia s.items.length L.ic) W:=fun W ho=>⟨(hN W ho).1,(hN W ho).2,(hC W ho).1,(hC W ho).2.2.2.1,(hC W ho).2.2.2.2.1⟩
 have UF: ∀W,ai [] w W->W.cell? ⟨n,4,none⟩=some (.pointer (some ⟨L.rb,0,none⟩))/\W.cell? ⟨n,2,none⟩=some (.bool s.online)/\W.cell? ⟨n,3,none⟩=some (.int .i64 s.bd)/\W.cell? ⟨n,8,none⟩=some (.slice da L.ds.length dc):=fun W ho=>⟨(hC W ho).2.2.1,(hC W ho).1,(hC W ho).2.1,(hC W ho).2.2.2.2.2.2⟩
 have cW: ∀W t3 a cap,ai [] w W->W.heap[t3]?=some (.cells #[.string g,.string nm,.bool s.online,.int .i64 0,.int .i64 0,.bool s.pending,.slice a s.items.length cap,.slice none 0 0] 38 (0,0))->nW W w.heap.size->aM w.heap.size W a cap s.items->(∀b,a.map (·.block)=some b->b≠t3/\b≠w.heap.size)->w.heap.size<t3->
   Calls Tryz.prog 61 #[.pointer (some ⟨L.rb,0,none⟩)] W fun e w'=>e=.returned (.tuple #[.int .i64 (vM s),.bool s.begun])/\w'.heap[t3]?=some (.cells #[.string g,.string nm,.bool s.online,.int .i64 0,.int .i64 0,.bool s.pending,.slice a s.items.length cap,.slice none 0 0] 38 (0,0))/\nW w' w.heap.size/\aM w.heap.size w' a cap s.items/\(∀b,a.map (·.block)=some b->b≠t3/\b≠w.heap.size)/\w.heap.size<t3/\ai [] w w'/\w'.cell? ⟨n,2,none⟩=some (.bool s.online)/\w'.cell? ⟨n,3,none⟩=some (.int .i64 s.bd)/\w'.cell? ⟨n,8,none⟩=some (.slice da L.ds.length dc):=fun W t3 a cap ho h1 h2 h3 h4 h5=>
  (Sq.want_any L.rb s.want s.begun W (h.rrow.own ho (by simp))).mono fun e w' ⟨e1,e2⟩=>by
   subst e2;exact⟨by rw[e1];rfl,h1,h2,h3,h4,h5,ho,(UF W ho).2.1,(UF W ho).2.2.1,(UF W ho).2.2.2⟩
 have cN:=fun W (ho:ai [] w W)=>iK n ⟨L.rb,0,none⟩ W (UF W ho).1
 unfold oD at cC;generalize hits:s.items=its at*;change Hid _ at hits;generalize hnx:vM s=nx at*;change Hid _ at hnx;generalize hpe:s.pending=pe at*;change Hid _ at hpe;generalize hbg:s.begun=bg at*;change Hid _ at hbg;generalize hon:s.online=on at*;replace hon:=af hon;generalize hbd:s.bd=bd at*;change Hid _ at hbd hS0 UF cC cW cN hX hdv;clear hC hN h hil;go_enter Tryz.func25,Tryz.ntmps25
 go_wp2_with(go_at_call 59;refine(cN.out _ ((ai.refl _ _).alloc _)).mono ?_;rintro e w1 ⟨rfl,rfl⟩)
 have hW0:ai [] w (w.alloc (.cells #[.string ⟨#[]⟩,.string ⟨#[]⟩,.bool false,.int .i64 0,.int .i64 0,.bool false,.slice none 0 0,.slice none 0 0] 38)):=(ai.refl _ _).alloc _;have hZ0: ∀W,ai [] (w.alloc (.cells #[.string ⟨#[]⟩,.string ⟨#[]⟩,.bool false,.int .i64 0,.int .i64 0,.bool false,.slice none 0 0,.slice none 0 0] 38)) W->nW W w.heap.size:=fun W ho=>YQ (ho.heap (heap_alloc_new _ _) (by simp))
 have hs0:(w.alloc (.cells #[.string ⟨#[]⟩,.string ⟨#[]⟩,.bool false,.int .i64 0,.int .i64 0,.bool false,.slice none 0 0,.slice none 0 0] 38)).heap.size=w.heap.size+1:=by simp
 generalize w.alloc (.cells #[.string ⟨#[]⟩,.string ⟨#[]⟩,.bool false,.int .i64 0,.int .i64 0,.bool false,.slice none 0 0,.slice none 0 0] 38)=w0 at*;have hZ1: ∀W,ai [] ((w0.alloc (.cells #[.string ⟨#[]⟩,.string ⟨#[]⟩,.bool false,.int .i64 0,.int .i64 0,.bool false,.slice none 0 0,.slice none 0 0] 38)).drew) W->nW W w0.heap.size:=fun W ho=>YQ (((ai.refl [] _).drew.trans ho).heap (heap_alloc_new w0 _) (by simp))
 have hrZ:((w0.alloc (.cells #[.string ⟨#[]⟩,.string ⟨#[]⟩,.bool false,.int .i64 0,.int .i64 0,.bool false,.slice none 0 0,.slice none 0 0] 38)).drew).heap[w0.heap.size]?=some (.cells #[.string ⟨#[]⟩,.string ⟨#[]⟩,.bool false,.int .i64 0,.int .i64 0,.bool false,.slice none 0 0,.slice none 0 0] 38 (0,0)):=heap_alloc_new w0 _;change Hid _ at hrZ;have hA1:ai [] w w0.drew:=hW0.drew;have hA2:ai [] w ((w0.alloc (.cells #[.string ⟨#[]⟩,.string ⟨#[]⟩,.bool false,.int .i64 0,.int .i64 0,.bool false,.slice none 0 0,.slice none 0 0] 38)).drew):=(hW0.alloc _).drew;have hB1:=fun W (ho:ai [] w0.drew W)=>(((ai.refl [] w0).drew).trans ho)
 have hB2:=fun W (ho:ai [] ((w0.alloc (.cells #[.string ⟨#[]⟩,.string ⟨#[]⟩,.bool false,.int .i64 0,.int .i64 0,.bool false,.slice none 0 0,.slice none 0 0] 38)).drew) W)=>((((ai.refl [] w0).alloc _).drew).trans ho)
 obtain⟨i0,i1,i2,i5,i6⟩:=hS0.out _ hA1;have i4:=(UF.out _ hA1).1;have hlo:=af (show w.heap.size<=w0.heap.size by omega);have hne1:n≠w0.heap.size:=by omega
 have hne2:w.heap.size≠w0.heap.size:=by omega
 have acR:n≠w.heap.size:=by omega
 have afC:=Ne.symm hne1;have hne5:=Ne.symm hne2;have afD:=Ne.symm acR;change Hid _ at hZ0 hZ1 hs0 hB1 hB2;replace hA1:=af hA1;replace hA2:=af hA2;go_region_held3(fun W=>W.cell? ⟨n,0,none⟩=some (.string g)/\W.cell? ⟨n,1,none⟩=some (.string nm)/\W.cell? ⟨n,2,none⟩=some (.bool on)/\W.cell? ⟨n,5,none⟩=some (.bool pe)/\W.cell? ⟨n,6,none⟩=some (.slice L.ia its.length L.ic))
  (first|with_reducible exact kA|with_reducible exact hS0.out _ hA1.out|with_reducible exact hS0.out _ hA2.out|with_reducible exact hS0.out _ (dZ.out.alloc _)|with_reducible exact hS0.out _ (P8 dZ.out (.inr hlo.out)))
  ((first
    |(go_at_call 60;(with_reducible refine(cC.out _ hA1.out).mono ?_);rintro e w3 ⟨a,cap,rfl,fB,hO3⟩;have dZ:=hA1.out.trans hO3;have kA:=hS0.out _ dZ;have OL:=hB1.out _ hO3;have k4:=(UF.out _ dZ).1;have Yh:=af OL;have hnw:n<w3.heap.size:=Nat.lt_of_lt_of_le hln dZ.size;have hzw:w.heap.size<w3.heap.size:=(by have:=OL.size;have:=hs0.out;omega);have OM:=hO3.size;replace dZ:=af dZ;replace fB:=af fB;replace hO3:=af hO3)
    |(go_at_call 60;(with_reducible refine(cC.out _ hA2.out).mono ?_);rintro e w3 ⟨a,cap,rfl,fB,hO3⟩;have dZ:=hA2.out.trans hO3;have kA:=hS0.out _ dZ;obtain⟨⟨c0,c1,c2,c3,c4,c5,c6,c7⟩,f0,f1,f2,f3,f4,f5,f6,f7⟩:=hZ1.out _ hO3;have hrT:=af (hO3.heap hrZ.out (by simp));have aaF:=af (show∀b,a.map (·.block)=some b->w0.heap.size+1<=b from fun b hb=>by cases a with|none=>cases hb|some q=>cases hb;have:=fB.fresh q rfl;simpa using this);have OL:=hB2.out _ hO3;have k4:=(UF.out _ dZ).1;have Yh:=af OL;have hnw:n<w3.heap.size:=Nat.lt_of_lt_of_le hln dZ.size;have hzw:w.heap.size<w3.heap.size:=(by have:=OL.size;have:=hs0.out;omega);have OM:=hO3.size;replace dZ:=af dZ;replace fB:=af fB;replace hO3:=af hO3)))
 have hz1:w0.drew.heap.size=w0.heap.size:=rfl;have hoa: ∀b,a.map (·.block)=some b->w0.heap.size<=b/\b<w3.heap.size:=fun b hb=>by
  refine⟨?_,fB.out.blt hb⟩;cases a with
  |none=>cases hb
  |some q=>cases hb;have:=fB.out.fresh q rfl;simp at this;omega
 have cV:=cW.out (w3.alloc (.cells #[.string g,.string nm,.bool on,.int .i64 0,.int .i64 0,.bool pe,.slice a its.length cap,.slice none 0 0] 38)) w3.heap.size a cap (dZ.out.alloc _) (heap_alloc_new _ _) (hZ0.out _ (Yh.out.alloc _)) ⟨(fB.out.nil' ((ai.refl _ _).alloc _)).own,fun q hq=>Nat.le_trans hlo.out (hoa _ (by rw[hq];rfl)).1,fB.out.good⟩ (fun b hb=>by have:=hoa b hb;have:=hs0.out;omega) hzw;replace cV:=af cV;clear hoa hz1;have k5:=(UF.out _ (dZ.out.alloc (.cells #[.string g,.string nm,.bool on,.int .i64 0,.int .i64 0,.bool pe,.slice a its.length cap,.slice none 0 0] 38))).1;generalize w3.heap.size=t3 at*
 rotate_left
 have hz1:w0.drew.heap.size=w0.heap.size:=rfl;have hoa: ∀b,a.map (·.block)=some b->w0.heap.size<=b/\b<w3.heap.size:=fun b hb=>by
  exact⟨by have:=aaF.out b hb;omega,fB.out.blt hb⟩
 have cV:=cW.out ((((((((w3.setCell ⟨w0.heap.size,0,none⟩ (.string g)).setCell ⟨w0.heap.size,1,none⟩ (.string nm)).setCell ⟨w0.heap.size,2,none⟩ (.bool on)).setCell ⟨w0.heap.size,3,none⟩ (.int .i64 0)).setCell ⟨w0.heap.size,4,none⟩ (.int .i64 0)).setCell ⟨w0.heap.size,5,none⟩ (.bool pe)).setCell ⟨w0.heap.size,6,none⟩ (.slice a its.length cap)).setCell ⟨w0.heap.size,7,none⟩ (.slice none 0 0)) w0.heap.size a cap (P8 dZ.out (.inr hlo.out)) (afb hrT.out) (hZ0.out _ (P8 Yh.out (.inr (Nat.le_refl _)))) ⟨(fB.out.own' (P8 (S:=[w0.heap.size]) (ai.refl _ _) (.inl (by simp))) (fun b hb=>by have:=aaF.out b hb;simp;omega)).own,fun q hq=>Nat.le_trans hlo.out (hoa _ (by rw[hq];rfl)).1,fB.out.good⟩ (fun b hb=>by have:=aaF.out b hb;have:=hs0.out;omega) (by have:=hs0.out;omega);replace cV:=af cV;clear hoa hz1;generalize w0.heap.size=t3 at*
 rotate_left
 all_goals
  cases on
 all_goals
  go_wp2_with(go_at_call 61;(with_reducible refine cV.out.mono ?_);rintro e w5 ⟨rfl,Gx,hz5,pF,Pn,ht5,aF,j2,j3,j8⟩;obtain⟨⟨c0,c1,c2,c3,c4,c5,c6,c7⟩,f0,f1,f2,f3,f4,f5,f6,f7⟩:=LW Gx;have ht6:=Nat.ne_of_lt ht5;replace hz5:=af hz5;replace Gx:=af Gx;replace pF:=af pF;replace Pn:=af Pn;replace ht5:=af ht5;replace aF:=af aF)
 all_goals
  have Yi:VL w w5 w.heap.size t3 a cap its (.slice none 0 0) [] []:=⟨pF.out,Sl.nil _ _ _,⟨rfl,fun i v x hv=>by simp at hv⟩,aF.out,⟨Nat.le_refl _,Nat.le_of_lt ht5.out⟩,fun b hb=>⟨(Pn.out b hb).2,(Pn.out b hb).1,by simp[Value.ownBlock]⟩,by simp,by simp[Value.ownBlock]⟩
  first
   |(obtain⟨w6,bv,ob,hbv,hob,hw6,hV6,Gn,hz6,h6⟩: ∃(w6:World) (bv:Int) (ob:Bool),bv=bd/\ob=true/\(w5.setCell ⟨t3,4,none⟩ (.int .i64 nx)).setCell ⟨t3,3,none⟩ (.int .i64 bd)=w6/\VL w w6 w.heap.size t3 a cap its (.slice none 0 0) [] []/\w6.heap[t3]?=some (.cells #[.string g,.string nm,.bool ob,.int .i64 bv,.int .i64 nx,.bool pe,.slice a its.length cap,.slice none 0 0] 38 (0,0))/\nW w6 w.heap.size/\w.heap.size<w6.heap.size/\t3<w6.heap.size:=by
      have hO:ai [t3] w5 ((w5.setCell ⟨t3,4,none⟩ (.int .i64 nx)).setCell ⟨t3,3,none⟩ (.int .i64 bd)):=((ai.refl _ _).setCell (.inl (by simp)) _).setCell (.inl (by simp)) _;refine⟨_,bd,true,rfl,rfl,rfl,Yi.own' hO (by simp),heap_setCell_same _ _ _ _ _ _ (heap_setCell_same _ _ _ _ _ _ Gx.out),?_,?_,?_⟩
      ·exact CF hz5.out hO (by simpa using ht6)
      ·have:=hO.size;have:=aj Gx.out;have:=ht5.out;omega
      ·have:=hO.size;have:=aj Gx.out;omega
     rw[hw6])
   |(obtain⟨w6,bv,ob,hbv,hob,hw6,hV6,Gn,hz6,h6⟩: ∃(w6:World) (bv:Int) (ob:Bool),bv=0/\ob=false/\w5.setCell ⟨t3,4,none⟩ (.int .i64 nx)=w6/\VL w w6 w.heap.size t3 a cap its (.slice none 0 0) [] []/\w6.heap[t3]?=some (.cells #[.string g,.string nm,.bool ob,.int .i64 bv,.int .i64 nx,.bool pe,.slice a its.length cap,.slice none 0 0] 38 (0,0))/\nW w6 w.heap.size/\w.heap.size<w6.heap.size/\t3<w6.heap.size:=by
      have hO:ai [t3] w5 (w5.setCell ⟨t3,4,none⟩ (.int .i64 nx)):=(ai.refl _ _).setCell (.inl (by simp)) _;refine⟨_,0,false,rfl,rfl,rfl,Yi.own' hO (by simp),heap_setCell_same _ _ _ _ _ _ Gx.out,?_,?_,?_⟩
      ·exact CF hz5.out hO (by simpa using ht6)
      ·have:=hO.size;have:=aj Gx.out;have:=ht5.out;omega
      ·have:=hO.size;have:=aj Gx.out;omega
     rw[hw6])
 all_goals
  have hDL:=af (hX.out w (ai.refl _ _)).len;have hD4:L.ds.length<=4:=by have:=(hX.out w (ai.refl _ _)).few.2.2;have:=hDL.out;omega
  have hrt:w.heap.size≠t3:=ht6;change Hid _ at hbv hrt;replace hob:=af hob;clear Yi hw6 Gx hz5 pF Pn ht5 aF j2 j3 j8 c0 c1 c2 c3 c4 c5 c6 c7 f0 f1 f2 f3 f4 f5 f6 f7 ht6 cV i0 i1 i2 i4 i5 i6 hne1 hne2 acR afC hne5 afD kA k4 OL Yh hnw hzw OM dZ fB hO3 hB1 hB2 hZ0 hZ1 hs0 hA1 hA2 hrZ hlo hW0 cC cN hS0 UF cW hln;go_loopg[54] L.ds.length (fun m s54 wr=> ∃(k:Nat) (vv:Value) (V:List DV),k<=L.ds.length/\m=L.ds.length-k/\s54=.int .i64 k/\
   Aside (VL w wr w.heap.size t3 a cap its vv V (s.dev.take k)/\wr.heap[t3]?=some (.cells #[.string g,.string nm,.bool ob,.int .i64 bv,.int .i64 nx,.bool pe,.slice a its.length cap,vv] 38 (0,0))/\nW wr w.heap.size/\(w.heap.size<wr.heap.size/\t3<wr.heap.size)))
  case atStart=>exact⟨0,_,[],Nat.zero_le _,rfl,rfl,by simpa using hV6,Gn,hz6,h6⟩
  case round=>
   obtain⟨k,vv,V,hk,rfl,rfl,hV,hr,hz,hl⟩:=hrel;by_cases hlt:k<L.ds.length
   ·have hkx:k<s.dev.length:=by rw[hDL.out];exact hlt
    have hE:=hX.out wr hV.own;have acT:=hE.devs k _ _ (List.getElem?_eq_getElem hlt) (List.getElem?_eq_getElem hkx);have hdr:ai [] wr wr.drew:=(ai.refl _ _).drew;have cD:=Rf L.ds[k] s.dev[k] wr wr.drew (acT.nil' hdr) hdr;have eD: ∀args w,(callFunc 62 args).run Tryz.prog w=.ok (.enter 62 args) w:=enters_of Tryz.func62 (by kernel_rfl) rfl;obtain⟨gb,hgb⟩: ∃gb,da=some ⟨gb,0,none⟩/\wr.cell? ⟨gb,k,none⟩=some (.pointer (some ⟨L.ds[k].blk,0,none⟩)):=by
     rcases hE.dvs.form with⟨h1,h2⟩|⟨gb,cp,h1,_,hR⟩
     ·rw[h2]at hlt;simp at hlt
     ·rw[hdv.out]at h1
      cases h1;have:=hR.cell vC (List.getElem?_eq_getElem hlt) (show(iO L.ds[k])[0]?=_ from rfl);exact⟨gb,rfl,by simpa using this⟩
    obtain⟨rfl,hcell⟩:=hgb;obtain⟨sa,sc,rfl⟩:=hV.sl.sl;have h7: ∀W,ai [] wr W->W.cell? ⟨t3,7,none⟩=some (.slice sa V.length sc):=fun W ho=>cell_of_row W t3 7 _ _ _ (ho.heap hr (by simp))
    have h7d:=h7 _ hdr;have hvl:V.length<=4:=by have:=hV.dvs.1;simp at this;omega
    have htk:s.dev.take (k+1)=s.dev.take k++[s.dev[k]]:=by rw[List.take_succ_eq_append_getElem hkx]
    generalize s.dev[k]=x at*;generalize hdb:L.ds[k].blk=db at*;change Hid _ at htk hr hz hl cD eD h7;replace hV:=af hV;have hl1:=af (show(V.length+1)*48<=140737488355328 by omega);have hl2:=af (show V.length+1<=maxLen by unfold maxLen;omega);clear acT hE hdr hV6 Gn hz6 h6 hdb;go_wp2_with fail
    go_region_law((first
     |((refine Qh rfl 62 _ _ (by rfl) (by simp[Act.eval,Act.put]) eD.out cD.out ?_);intro va wa hva;obtain⟨ad,cd,rfl,hRa,Ay⟩:=hva;have kA:=h7.out wa Ay;have kB:=h7.out _ (Ay.alloc (.cells #[.string x.name,.bool x.on,.slice ad x.items.length cd] 46));have hRb:=aG.new (enc:=xS) (T:=46) wa ⟨x.name,x.on,ad,x.items.length,cd⟩ 1;replace hRb:=af hRb;have hOb:=af (hV.out.own.trans (Ay.alloc (.cells #[.string x.name,.bool x.on,.slice ad x.items.length cd] 46)));have hSb:=af (hV.out.sl.nil' (Ay.alloc (.cells #[.string x.name,.bool x.on,.slice ad x.items.length cd] 46)));replace hRa:=af hRa;replace Ay:=af Ay)
     |((refine H7 rfl (.tmp 59) (.tmp 62) (by rfl) ab3 hOb.out (by rfl) hSb.out (by rfl) hRb.out (by simpa using hl1.out) (by simpa using hl2.out) ?_);intro va w5 hS5 aF hg5 iD;obtain⟨a5,c5,rfl⟩:=hS5.sl;rw[List.length_append,List.length_singleton]at hS5 hg5;have Gx:=iD.heap ((Ay.out.alloc (.cells #[.string x.name,.bool x.on,.slice ad x.items.length cd] 46)).heap hr.out (by simp)) (fun hx=>(hV.out.n3 _ (Option.mem_toList.1 hx)).2 rfl);have kC:w5.cell? ⟨t3,7,none⟩=some (.slice sa V.length sc):=cell_of_row w5 t3 7 _ _ _ Gx;have f5:w5.frozen? ⟨t3,7,none⟩=false:=frozen_of_row _ _ _ _ _ Gx;replace hS5:=af hS5;replace aF:=af aF;replace hg5:=af hg5;replace iD:=af iD;replace Gx:=af Gx)))
    all_goals
     have hVp:=hV.out.push hl.out ⟨rfl,rfl,rfl,hRa.out⟩ Ay.out ((ai.refl _ _).alloc _) hS5.out iD.out hg5.out;have OO:ai [t3] w5 (w5.setCell ⟨t3,7,none⟩ (.slice a5 (V.length+1) c5)):=(ai.refl _ _).setCell (.inl (by simp)) _;have hV7:=hVp.own' OO (by simp);have Pb:=heap_setCell_same _ _ 7 _ _ (.slice a5 (V.length+1) c5) Gx.out;have hOz:ai (Value.slice sa V.length sc).ownBlock.toList wr w5:=(Ay.out.nil.trans ((ai.refl _ _).alloc _).nil).trans iD.out;have hz7:=CF (CF hz.out hOz (fun hx=>(hV.out.n3 _ (Option.mem_toList.1 hx)).1 rfl)) OO (by simpa using hrt.out);have hs7:=Nat.le_trans hOz.size OO.size;rw[<-htk.out]at hV7;have hfin:=af (And.intro hV7 (And.intro Pb (And.intro hz7 (And.intro (Nat.lt_of_lt_of_le hl.out.1 hs7) (Nat.lt_of_lt_of_le hl.out.2 hs7)))));clear hVp OO hV7 Pb hOz hz7 hs7 kA kB kC f5;go_wp2_with fail
     go_roundg(L.ds.length-(k+1))
     case rel=>exact⟨k+1,_,_,by omega,rfl,by go_num,hfin.out⟩
     case measure=>omega
   ·have hke:k=L.ds.length:=by omega
    have hte:s.dev.take k=s.dev:=List.take_of_length_le (by rw[hDL.out];omega);rw[hte]at hV;obtain⟨sa,sc,rfl⟩:=hV.sl.sl;have hfin: ∀w',ai [w.heap.size] wr w'->aM w.heap.size w' a cap its/\Sl 46 xS 3 w.heap.size w' (.slice sa V.length sc) V/\DVs w.heap.size w' V s.dev/\ai [] w w':=fun w' ho=>by
     have:=hV.own' ho (by simp);exact⟨this.out,this.sl,this.dvs,this.own⟩
    change Hid _ at hfin;obtain⟨⟨c0,c1,c2,c3,c4,c5,c6,c7⟩,f0,f1,f2,f3,f4,f5,f6,f7⟩:=LW hr;obtain⟨⟨d0,d1,d2,d3,d4,d5,d6,d7⟩,e0,e1,e2,e3,e4,e5,e6,e7⟩:=hz;have aiD:=hrt.out;change Hid _ at hke;clear hV hr hte hl hV6 Gn hz6 h6;go_wp2_with fail
    refine bodyPost_ret (v:=.agg #[.string g,.string nm,.bool ob,.int .i64 bv,.int .i64 nx,.bool pe,.slice a its.length cap,.slice sa V.length sc]) (by simp[results,Tryz.results25,go_sem,d0,d1,d2,d3,d4,d5,d6,d7]) rfl (EZ (hon.out.trans hob.out.symm) (by unfold YP;rw[hon.out,hbv.out];first|rfl|(rw[hbd.out];rfl)) hnx.out hpe.out hits.out (hfin.out _ ?_))
    repeat(first|refine ai.setCell ?_ (.inl (by simp)) _|with_reducible exact ai.refl _ _)
end Go.Proofs.YtedcakchekaemaaGreatDoor
namespace Go.Proofs.YtedcakchekaemaaGreatDoor
open Go.RowKit Go.Sort
def aU(x y:ByteArray):Bool:=Op.bytesLess x.toList y.toList
def mV(x y:ByteArray):Int:=if aU x y then -1 else if x.toList==y.toList then 0 else 1
theorem lu(x y:ByteArray):aU x y=true↔x.toList<y.toList:=by
 unfold aU;rw[bytesLess_eq];simp
theorem dA{x y:ByteArray}(h:x.toList=y.toList):x=y:=by
 have:(x==y)=true:=by rw[beq_toListBytes];simpa using h
 simpa using this
theorem iG(x:ByteArray):aU x x=false:=by
 cases h:aU x x
 ·rfl
 ·exact absurd ((lu x x).1 h) (List.lt_irrefl _)
theorem kr{x y z:ByteArray}(h:aU x y=true)(k:aU y z=true):aU x z=true:=
 (lu x z).2 (List.lt_trans ((lu x y).1 h) ((lu y z).1 k))
theorem DF{x y:ByteArray}(h:aU x y=true):aU y x=false:=by
 cases k:aU y x
 ·rfl
 ·have:=kr h k
  rw[iG]at this;cases this
theorem ni{x y:ByteArray}(h:aU x y=false)(k:aU y x=false):x=y:=by
 refine dA (List.le_antisymm (List.not_lt.1 fun hc=>?_) (List.not_lt.1 fun hc=>?_))
 ·rw[(lu y x).2 hc]at k;cases k
 ·rw[(lu x y).2 hc]at h;cases h
theorem Pv{x y:ByteArray}(h:aU y x=false)(hne:x≠y):aU x y=true:=by
 cases k:aU x y
 ·exact absurd (ni k h) hne
 ·rfl
def dP{α:Type}(key:α->ByteArray)(l:List α):Prop:=l.Pairwise fun x y=>aU (key x) (key y)=true
end Go.Proofs.YtedcakchekaemaaGreatDoor
namespace Go.Proofs.YtedcakchekaemaaGreatDoor
open Go.RowKit
section
variable {α : Type} {key : α → ByteArray}
def cu(key:α->ByteArray)(r:List α)(n:ByteArray):Nat:=(r.takeWhile fun p=>aU (key p) n).length
def jH(key:α->ByteArray)(r:List α)(n:ByteArray):Bool:=match r[cu key r n]? with|some p=>(key p).toList==n.toList|none=>false
def ab4(key:α->ByteArray)(r:List α)(x:α):List α:=r.take (cu key r (key x))++[x]++r.drop (cu key r (key x))
theorem CG(r:List α)(n:ByteArray):cu key r n<=r.length:=(List.takeWhile_prefix _).length_le
theorem V7{r:List α}{n:ByteArray}{k:Nat}(h:k<cu key r n): ∃p,r[k]?=some p/\aU (key p) n=true:=by
 have hk:k<(r.takeWhile fun p=>aU (key p) n).length:=h;refine⟨(r.takeWhile fun p=>aU (key p) n)[k],?_,List.all_eq_true.1 (List.all_takeWhile (p:=fun p=>aU (key p) n) (l:=r)) _ (List.getElem_mem hk)⟩;obtain⟨s,hs⟩:=List.takeWhile_prefix (p:=fun p=>aU (key p) n) (l:=r);have e:((r.takeWhile fun p=>aU (key p) n)++s)[k]?=some (r.takeWhile fun p=>aU (key p) n)[k]:=by
  rw[List.getElem?_append_left hk];exact List.getElem?_eq_getElem hk
 rwa[hs]at e
theorem CJ{r:List α}{n:ByteArray}{p:α}(h:r[cu key r n]?=some p):aU (key p) n=false:=by
 unfold cu at h;induction r with
 |nil=>simp at h
 |cons q r ih=>
  cases hq:aU (key q) n
  ·simp[hq]at h
   rw[<-h];exact hq
  ·simp[hq]at h
   exact ih h
theorem zw(r:List α)(n:ByteArray):r.take (cu key r n)=r.takeWhile (fun p=>aU (key p) n)/\r.drop (cu key r n)=r.dropWhile (fun p=>aU (key p) n):=by
 have h:=List.takeWhile_append_dropWhile (p:=fun p:α=>aU (key p) n) (l:=r);have h1:=List.take_left (l₁:=r.takeWhile fun p=>aU (key p) n) (l₂:=r.dropWhile fun p=>aU (key p) n);have h2:=List.drop_left (l₁:=r.takeWhile fun p=>aU (key p) n) (l₂:=r.dropWhile fun p=>aU (key p) n);rw[h]at h1 h2;exact⟨h1,h2⟩
theorem xJ{r:List α}(h:dP key r):(r.map key).Nodup:=by
 unfold dP at h;rw[List.nodup_iff_pairwise_ne,List.pairwise_map];refine h.imp fun {a b} hab e=>?_
 rw[e,iG]at hab;cases hab
theorem zx{r:List α}(hr:dP key r){n:ByteArray}{p:α}(hp:p∈r)(hn:key p=n):r[cu key r n]?=some p:=by
 have h:=List.takeWhile_append_dropWhile (p:=fun p:α=>aU (key p) n) (l:=r);have hd:=(zw (key:=key) r n).2;have hpd:p∈r.dropWhile (fun p=>aU (key p) n):=by
  rw[<-h]at hp;rcases List.mem_append.1 hp with h1|h1
  ·have:=List.all_eq_true.1 (List.all_takeWhile (p:=fun p:α=>aU (key p) n) (l:=r)) p h1
   rw[hn,iG]at this;cases this
  ·exact h1
 cases hq:r.dropWhile (fun p=>aU (key p) n)with
 |nil=>rw[hq]at hpd;cases hpd
 |cons q s=>
  have hqk:r[cu key r n]?=some q:=by
   have:(r.drop (cu key r n))[0]?=some q:=by rw[hd,hq];rfl
   simpa using this
  rw[hqk];rw[hq]at hpd;rcases List.mem_cons.1 hpd with rfl|h2
  ·rfl
  ·exfalso
   have hns:=CJ hqk;have hr2:(r.dropWhile (fun p=>aU (key p) n)).Pairwise (fun x y=>aU (key x) (key y)=true):=hr.sublist (List.dropWhile_sublist _);rw[hq,List.pairwise_cons]at hr2;have:=hr2.1 p h2;rw[hn,hns]at this;cases this
theorem oN{r:List α}{n:ByteArray}(h:jH key r n=true): ∃p,r[cu key r n]?=some p/\key p=n:=by
 unfold jH at h;cases hp:r[cu key r n]? with
 |none=>rw[hp]at h;cases h
 |some p=>rw[hp]at h;exact⟨p,rfl,dA (by simpa using h)⟩
theorem MU{r:List α}(hr:dP key r){n:ByteArray}(h:jH key r n=false): ∀p∈r,key p≠n:=by
 intro p hp e;unfold jH at h;rw[zx hr hp e]at h;simp[e]at h
theorem IQ{r:List α}(hr:dP key r){x:α}(hn: ∀p∈r,key p≠key x):dP key (ab4 key r x):=by
 obtain⟨e1,e2⟩:=zw (key:=key) r (key x);unfold dP at hr⊢;unfold ab4;rw[e1,e2];have h:=List.takeWhile_append_dropWhile (p:=fun p:α=>aU (key p) (key x)) (l:=r);have hr2:=hr;rw[<-h,List.pairwise_append]at hr2;obtain⟨a1,a2,a3⟩:=hr2;have hlt: ∀y∈r.takeWhile (fun p=>aU (key p) (key x)),aU (key y) (key x)=true:=fun y hy=>List.all_eq_true.1 (List.all_takeWhile (p:=fun p:α=>aU (key p) (key x)) (l:=r)) y hy
 have hgt: ∀y∈r.dropWhile (fun p=>aU (key p) (key x)),aU (key x) (key y)=true:=by
  intro y hy;cases hq:r.dropWhile (fun p=>aU (key p) (key x))with
  |nil=>rw[hq]at hy;cases hy
  |cons q s=>
   have hqk:r[cu key r (key x)]?=some q:=by
    have:(r.drop (cu key r (key x)))[0]?=some q:=by rw[e2,hq];rfl
    simpa using this
   have hqr:q∈r:=List.mem_of_getElem? hqk;have hnq:aU (key x) (key q)=true:=Pv (CJ hqk) (Ne.symm (hn q hqr));rw[hq]at hy a2;rw[List.pairwise_cons]at a2;rcases List.mem_cons.1 hy with rfl|h2
   ·exact hnq
   ·exact kr hnq (a2.1 y h2)
 rw[List.pairwise_append,List.pairwise_append];refine⟨⟨a1,List.pairwise_singleton _ _,?_⟩,a2,?_⟩
 ·intro y hy z hz
  simp at hz;subst hz;exact hlt y hy
 ·intro y hy z hz
  rcases List.mem_append.1 hy with h1|h1
  ·exact a3 y h1 z hz
  ·simp at h1
   subst h1;exact hgt z hz
theorem zy: ∀(l:List α) (i:Nat) (h:i<l.length),(l[i]::l.eraseIdx i).Perm l
 | [],i,h=>absurd h (Nat.not_lt_zero i)
 |x::r,0,_=>List.Perm.refl _
 |x::r,i+1,h=>by
  simp only[List.getElem_cons_succ,List.eraseIdx_cons_succ];exact(List.Perm.swap x _ _).trans (List.Perm.cons x (zy r i (by simpa using h)))
theorem wV{r:List α}(hr:dP key r){k:Nat}{p x:α}(hk:r[k]?=some p)(hx:key x=key p):dP key (r.set k x):=by
 have hkl:=(List.getElem?_eq_some_iff.1 hk).1;have ek:=(List.getElem?_eq_some_iff.1 hk).2;have hm:(r.set k x).map key=r.map key:=by
  rw[List.map_set];have:(r.map key)[k]'(by simpa using hkl)=key x:=by simp[ek,hx]
  rw[<-this,List.set_getElem_self]
 unfold dP at hr⊢;have h2:(r.map key).Pairwise (fun x y=>aU x y=true):=List.pairwise_map.2 hr;rw[<-hm]at h2;exact List.pairwise_map.1 h2
end
end Go.Proofs.YtedcakchekaemaaGreatDoor
