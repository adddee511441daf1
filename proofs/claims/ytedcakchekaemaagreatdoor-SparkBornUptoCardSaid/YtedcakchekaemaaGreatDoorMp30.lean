/- Contracts of the program, part 30. -/
import Derived.Test.YtedcakchekaemaaGreatDoorMp28
set_option maxRecDepth 100000
set_option maxHeartbeats 16000000
set_option linter.all false
namespace Go.Proofs.YtedcakchekaemaaGreatDoor
open Go.RowKit
variable [Kd]
structure TK (w0 w:World) (K0 K:aW) (eb:Nat) (x:uR):Prop where
 sk:bE w K
 en:aV w eb x
 ap:eb∉K.feet
 own:ai K0.feet w0 w
 new: ∀z∈K.feet,z∈K0.feet\/w0.heap.size<=z
 eb0:w0.heap.size<=eb
 pe:K.p=K0.p
theorem TK.step{w0 w w':World}{K0 K K':aW}{eb:Nat}{x y:uR}(H:TK w0 w K0 K eb x)(hs:bE w' K')(he:aV w' eb y)(ho:ai (eb::K.feet) w w')(hf: ∀z∈K'.feet,z∈K.feet\/w.heap.size<=z)(hp:K'.p=K.p):TK w0 w' K0 K' eb y:=by
 have hel:=aj H.en;have hsz:=H.own.size;refine⟨hs,he,fun hx=>?_,H.own.trans' ho (fun z hz=>?_),fun z hz=>?_,H.eb0,hp.trans H.pe⟩
 ·rcases hf eb hx with h1|h1
  ·exact H.ap h1
  ·omega
 ·rcases List.mem_cons.1 hz with rfl|hz
  ·exact .inr H.eb0
  ·exact H.new z hz
 ·rcases hf z hz with h1|h1
  ·exact H.new z h1
  ·exact .inr (by omega)
theorem aW.p_mem(K:aW):K.p∈K.feet:=aW.part (a:=[K.p]) (by simp[aW.parts]) (by simp)
theorem aW.m_mem(K:aW):K.m∈K.feet:=aW.part (a:=[K.m]) (by simp[aW.parts]) (by simp)
theorem aW.h_mem(K:aW):K.h∈K.feet/\K.hm∈K.feet:=⟨aW.part (a:=[K.h,K.hm]) (by simp[aW.parts]) (by simp),aW.part (a:=[K.h,K.hm]) (by simp[aW.parts]) (by simp)⟩
theorem aW.b_mem(K:aW): ∀z∈bC K.bb K.bv,z∈K.feet:=fun z hz=>aW.part (a:=bC K.bb K.bv) (by simp[aW.parts]) hz
theorem aW.r_mem(K:aW): ∀z∈K.RB,z∈K.feet:=fun z hz=>aW.part (a:=K.RB) (by simp[aW.parts]) hz
theorem aW.n_mem{K:aW}{x:gZ}(hx:x∈K.NS): ∀z∈x.feet,z∈K.feet:=fun z hz=>aW.part (a:=x.feet) (by have:=aW.memN hx;simp only[aW.parts,List.mem_cons];exact .inr (.inr (.inr (.inr (.inr this))))) hz
theorem bE.c{w:World}{K:aW}(H:bE w K):w.cell? ⟨K.p,0,none⟩=some (.map (some K.m))/\w.cell? ⟨K.p,1,none⟩=some (aN K.h)/\w.cell? ⟨K.p,2,none⟩=some (aN K.bb)/\w.cell? ⟨K.p,3,none⟩=some (aN K.r)/\w.cell? ⟨K.p,4,none⟩=some (.int .i64 K.asked):=
 ⟨cell_of_row _ _ 0 _ _ _ H.sp,cell_of_row _ _ 1 _ _ _ H.sp,cell_of_row _ _ 2 _ _ _ H.sp,cell_of_row _ _ 3 _ _ _ H.sp,cell_of_row _ _ 4 _ _ _ H.sp⟩
theorem bE.disjH{w:World}{K:aW}(H:bE w K):K.p≠K.h/\K.p≠K.hm:=by
 have hn:=oU (A:=[[K.p],[K.m]]) (C:=[K.h,K.hm]) (B:=bC K.bb K.bv::K.RB::K.NS.map gZ.feet) H.apart;have:=hn [K.p] (by simp) K.p (by simp);simpa using this
theorem aV.setc{w:World}{b:Nat}{x y:uR}(h:aV w b x)(i:Nat)(u:Value)(hy: ∀w',w'.heap[b]?=some (.cells ((#[.int .i64 x.at',.string x.topic,.string x.text,.int .i64 x.qos,.bool x.ret,.int .i64 x.s.k,.string x.s.g,.string x.s.n,.string x.s.d,x.node,.int .i64 x.code,.string x.vg,.string x.vn,.bool x.ask]:Array Value).setIfInBounds i u) 80 (0,0))->aV w' b y):
  aV (w.setCell ⟨b,i,none⟩ u) b y/\ai [b] w (w.setCell ⟨b,i,none⟩ u)/\w.frozen? ⟨b,i,none⟩=false:=
 ⟨hy _ (heap_setCell_same _ b i _ _ u h),(ai.refl _ _).setCell (.inl (by simp)) _,frozen_of_row _ b i _ _ h⟩
theorem Jc(K:aW)(eb:Nat)(x:uR)(w:World)(H:bE w K)(hx:aV w eb x)(hap:eb∉K.feet)(h9:x.s.k=9):
  Calls Tryz.prog 54 #[aN K.p,aN eb] w fun e w'=>e=.returned (.bool false)/\bE w' {K with hs:=(kP K.hs x.s.n x.text).2}/\aV w' eb {x with vn:=x.s.n,code:=(kP K.hs x.s.n x.text).1}/\ai [eb,K.h,K.hm] w w':=by
 obtain⟨⟨rc,rs⟩,hR⟩: ∃R,kP K.hs x.s.n x.text=R:=⟨_,rfl⟩;rw[hR];simp only;obtain⟨c0,c1,c2,c3,c4,c5,c6,c7,c8,c9,c10,c11,c12,c13⟩:=bK hx;obtain⟨hE1,aL,z12⟩:=hx.setc (y:={x with vn:=x.s.n}) 12 (.string x.s.n) (fun w' h=>h);have hpe:K.p≠eb:=fun e=>hap (by rw[<-e];exact K.p_mem)
 have hhe:K.h≠eb:=fun e=>hap (by rw[<-e];exact K.h_mem.1)
 have hme:K.hm≠eb:=fun e=>hap (by rw[<-e];exact K.h_mem.2)
 have hdj:=H.disjH;have H1:bE (w.setCell ⟨eb,12,none⟩ (.string x.s.n)) K:=H.own aL (fun z hz hc=>by simp at hc;subst hc;exact hap hz);go_enter Tryz.func54,Tryz.ntmps54
 go_upto_region 2 with(fail)
 generalize(w.setCell ⟨eb,12,none⟩ (.string x.s.n))=W at*;obtain⟨d0,d1,d2,d3,d4,d5,d6,d7,d8,d9,Av,BQ,BR,Dl⟩:=bK hE1;simp only at d0 d1 d2 d5 d7 Av;rw[h9]at d5;have hT:=take_any K.h K.hm K.hs W.drew x.s.n x.text (H1.ho.own (S:=[]) (ai.refl [] W).drew (by simp) (by simp));have hS:Hid (∀W' y,ai [eb,K.h,K.hm] W W'->aV W' eb y->y.s=x.s->y.text=x.text->W'.cell? ⟨K.p,1,none⟩=some (aN K.h)/\W'.cell? ⟨eb,7,none⟩=some (.string x.s.n)/\W'.cell? ⟨eb,2,none⟩=some (.string x.text)):=af (fun W' y ho hy qs qt=>by
  obtain⟨e0,e1,e2,e3,e4,e5,e6,e7,e8,e9,e10,e11,e12,e13⟩:=bK hy;rw[qs]at e7;rw[qt]at e2;exact⟨cell_of_row _ _ 1 _ _ _ (ho.heap H1.sp (by simp;exact⟨hpe,hdj.1,hdj.2⟩)),e7,e2⟩)
 have kW:=hS.out W _ (ai.refl _ _) hE1 rfl rfl;have JZ:=hS.out W.drew _ ((ai.refl _ _).drew) (hE1.own (S:=[]) (ai.refl [] W).drew (by simp)) rfl rfl;rw[hR]at hT;unfold lW at hT;simp only at hT;change Hid _ at hR H1;replace hT:=af hT;replace aL:=af aL;clear c0 c1 c2 c3 c4 c5 c6 c7 c8 c9 c10 c11 c12 c13 H hx;go_wp2_with fail
 go_region_held3(fun W'=>W'.cell? ⟨K.p,1,none⟩=some (aN K.h)/\W'.cell? ⟨eb,7,none⟩=some (.string x.s.n)/\W'.cell? ⟨eb,2,none⟩=some (.string x.text)) (first|with_reducible exact kA|with_reducible exact kB|with_reducible exact JZ|with_reducible exact kW|go_keep)
  ((go_at_call 92;(with_reducible refine hT.out.mono ?_);rintro e w3 ⟨rfl,hH3,hO3⟩;have dK:=((ai.refl [K.h,K.hm] W).drew).trans hO3;have dx:ai [eb,K.h,K.hm] W w3:=dK.mono (by intro z hz;exact List.mem_cons_of_mem _ hz);have jL:=hE1.own dK (by simp;exact⟨Ne.symm hhe,Ne.symm hme⟩);have kA:=hS.out _ _ dx jL rfl rfl;obtain⟨kH,hO4,z10⟩:=jL.setc (y:={x with vn:=x.s.n,code:=rc}) 10 (.int .i64 rc) (fun w' h=>h);have aF:=dx.trans (hO4.mono (by intro z hz;simp at hz;subst hz;simp));have kB:=hS.out _ _ aF kH rfl rfl;have f10:=(bK jL).2.2.2.2.2.2.2.2.2.2.1))
 all_goals
  have nI:=(H1.out.hosts hH3 dK).own hO4 (fun z hz hc=>by
   simp at hc;subst hc;exact hap hz)
  change Hid _ at nI;have qJ:=af ((aL.out.mono (by intro z hz;simp at hz;subst hz;simp):ai [eb,K.h,K.hm] w W).trans aF);change Hid _ at kH;clear kA kB kW JZ hS hT hH3 hO3 dK dx jL;go_wp2_with fail
  go_ret
  exact⟨rfl,nI.out,kH.out,qJ.out⟩
theorem Nr(g nm:ByteArray)(w:World)(h:g.toList.isEmpty=true\/nm.toList.isEmpty=true):
  Calls Tryz.prog 93 #[.string g,.string nm] w fun e w'=>e=.returned (.tuple #[.pointer none,.int .i64 1])/\w=w':=by
 cases hg:g.toList.isEmpty with
 |true=>
  have hg2:(g.toList==[])=true:=by rw[show g.toList=[]by simpa using hg];rfl
  clear h hg;go_enter Tryz.func93,Tryz.ntmps93
  go_wp2_with fail
  go_ret2
  exact⟨rfl,rfl⟩
 |false=>
  have hg2:(g.toList==[])=false:=by cases hq:g.toList with|nil=>rw[hq]at hg;cases hg|cons=>rfl
  have hn2:(nm.toList==[])=true:=by
   rcases h with h|h
   ·rw[hg]at h;cases h
   ·rw[show nm.toList=[]by simpa using h];rfl
  clear h hg;go_enter Tryz.func93,Tryz.ntmps93
  go_wp2_with fail
  go_ret2
  exact⟨rfl,rfl⟩
def lX(K:aW):List (Rk×Value):=K.NS.map fun x=>(x.key,aN x.blk)
theorem Jd(K:aW)(eb:Nat)(x:uR)(nd:gZ)(w:World)(H:bE w K)(hx:aV w eb x)(hap:eb∉K.feet)(hf:aQ (lX K) (x.s.g,x.s.n)=some (aN nd.blk)):
  Calls Tryz.prog 55 #[aN K.p,aN eb] w fun e w'=>e=.returned (.bool true)/\aV w' eb {x with vg:=x.s.g,node:=aN nd.blk}/\ai [eb] w w':=by
 have hE:=hx;have hbp:eb≠K.p:=fun e=>hap (by rw[e];exact K.p_mem)
 have yx:eb≠K.m:=fun e=>hap (by rw[e];exact K.m_mem)
 have hp:=H.sp;have hM:dI dm w K.m (lX K):=H.nm;have hpm:K.p≠K.m:=by
  have hn:=oU (A:=[[K.p]]) (C:=[K.m]) (B:=[K.h,K.hm]::bC K.bb K.bv::K.RB::K.NS.map gZ.feet) H.apart;simpa using hn [K.p] (by simp) K.p (by simp)
 obtain⟨c0,c1,c2,c3,c4,c5,c6,c7,c8,c9,c10,c11,c12,c13⟩:=bK hx;have p0:w.cell? ⟨K.p,0,none⟩=some (.map (some K.m)):=by rw[cell_of_row _ _ _ _ _ _ hp];rfl
 change Hid _ at H hap;go_enter Tryz.func55,Tryz.ntmps55
 have hA1:=(ai.refl [] w).alloc (.cells #[.string ⟨#[]⟩,.string ⟨#[]⟩] 87);have hx1:=hx.own hA1 (by simp);obtain⟨d0,d1,d2,d3,d4,d5,d6,d7,d8,d9,Av,BQ,BR,Dl⟩:=bK hx1;go_wp2_with fail
 go_region
 all_goals
  generalize hW1:World.alloc _ _=W1;have aL:ai [] w W1:=by rw[<-hW1];first|exact(ai.refl [] w).drew.alloc _|exact((ai.refl [] w).alloc _).drew|exact(ai.refl [] w).alloc _
  have hk1:W1.drew.heap[w.heap.size]?=some (.cells #[.string x.s.g,.string x.s.n] 87 (0,0)):=by rw[<-hW1];exact heap_alloc_new _ _
  have hO2:ai [] w W1.drew:=aL.drew;clear aL hW1 hx1 hA1 d0 d1 d2 d3 d4 d5 d6 d7 d8 d9 Av BQ BR Dl;generalize W1.drew=W2 at*;obtain⟨kb,hkb⟩: ∃kb,kb=w.heap.size:=⟨_,rfl⟩;rw[<-hkb]at hk1⊢;have hbl:=aj hx;have hpl:=aj hp;have hml:=hM.lt;have hbk:eb<kb:=by omega
  have hpk:K.p<kb:=by omega
  have hmk:K.m<kb:=by omega
  have hkw:w.heap.size<=kb:=by omega
  clear hkb hbl hpl hml;have hE2:=hx.own hO2 (by simp);have jL:aV (W2.setCell ⟨eb,11,none⟩ (.string x.s.g)) eb {x with vg:=x.s.g}:=by
   have:=heap_setCell_same _ eb 11 _ _ (.string x.s.g) hE2;simpa[aV]using this
  have hO3:ai [eb] w (W2.setCell ⟨eb,11,none⟩ (.string x.s.g)):=(hO2.nil).setCell (.inl (by simp)) _;have dO:ai [eb] W2 (W2.setCell ⟨eb,11,none⟩ (.string x.s.g)):=(ai.refl _ _).setCell (.inl (by simp)) _;have X4:=frozen_of_row _ eb 11 _ _ hE2;have b11:=(bK hE2).2.2.2.2.2.2.2.2.2.2.2.1;have k0:W2.cell? ⟨kb,0,none⟩=some (.string x.s.g):=cell_of_row _ kb 0 _ _ _ hk1;have k1:W2.cell? ⟨kb,1,none⟩=some (.string x.s.n):=cell_of_row _ kb 1 _ _ _ hk1;have hk3:=dO.heap hk1 (by simp;omega);have hp3:=hO3.heap hp (by simpa using hbp.symm);have eO:=hM.own hO3 (by simpa using yx.symm);clear c0 c1 c2 c3 c4 c5 c6 c7 c8 c9 c10 c11 c12 c13 p0;generalize hW3:W2.setCell ⟨eb,11,none⟩ (.string x.s.g)=W3 at*;have f0:W3.cell? ⟨kb,0,none⟩=some (.string x.s.g):=cell_of_row _ kb 0 _ _ _ hk3;have f1:W3.cell? ⟨kb,1,none⟩=some (.string x.s.n):=cell_of_row _ kb 1 _ _ _ hk3;have q0:W3.cell? ⟨K.p,0,none⟩=some (.map (some K.m)):=by rw[cell_of_row _ _ _ _ _ _ hp3];rfl
  have hlk:=eO.lookup_yes (P:=Tryz.prog) gI iw (x.s.g,x.s.n) hf true;have hlk2:=(eO.own ((ai.refl [] W3).drew) (by simp)).lookup_yes (P:=Tryz.prog) gI iw (x.s.g,x.s.n) hf true;simp only[dm,if_true]at hlk hlk2;go_wp2_with fail
  go_region
  all_goals
   have kH:=jL.own ((ai.refl [] W3).drew) (by simp);obtain⟨iZ,aF,z9⟩:=kH.setc (y:={x with vg:=x.s.g,node:=aN nd.blk}) 9 (aN nd.blk) (fun w' h=>h);have b9:=(bK kH).2.2.2.2.2.2.2.2.2.1;have qJ:=af ((hO3.drew).trans aF);change Hid _ at iZ;clear hlk hlk2 f0 f1 q0 jL hO3 eO kH aF hk3 hp3 hM hp hE hO2 dO hE2 k0 k1 b11 X4 hk1;go_wp2_with fail
   go_ret
   exact⟨rfl,iZ.out,qJ.out⟩
theorem RA(K:aW)(eb:Nat)(x:uR)(w:World)(H:bE w K)(hx:aV w eb x)(hap:eb∉K.feet)(hf:aQ (lX K) (x.s.g,x.s.n)=none)(hbad:x.s.g.toList.isEmpty=true\/x.s.n.toList.isEmpty=true):
  Calls Tryz.prog 55 #[aN K.p,aN eb] w fun e w'=>e=.returned (.bool false)/\aV w' eb {x with vg:=x.s.g,code:=8}/\ai [eb] w w':=by
 have hE:=hx;have hbp:eb≠K.p:=fun e=>hap (by rw[e];exact K.p_mem)
 have yx:eb≠K.m:=fun e=>hap (by rw[e];exact K.m_mem)
 have hp:=H.sp;have hM:dI dm w K.m (lX K):=H.nm;have hpm:K.p≠K.m:=by
  have hn:=oU (A:=[[K.p]]) (C:=[K.m]) (B:=[K.h,K.hm]::bC K.bb K.bv::K.RB::K.NS.map gZ.feet) H.apart;simpa using hn [K.p] (by simp) K.p (by simp)
 obtain⟨c0,c1,c2,c3,c4,c5,c6,c7,c8,c9,c10,c11,c12,c13⟩:=bK hx;have p0:w.cell? ⟨K.p,0,none⟩=some (.map (some K.m)):=by rw[cell_of_row _ _ _ _ _ _ hp];rfl
 change Hid _ at H hap;go_enter Tryz.func55,Tryz.ntmps55
 have hA1:=(ai.refl [] w).alloc (.cells #[.string ⟨#[]⟩,.string ⟨#[]⟩] 87);have hx1:=hx.own hA1 (by simp);obtain⟨d0,d1,d2,d3,d4,d5,d6,d7,d8,d9,Av,BQ,BR,Dl⟩:=bK hx1;go_wp2_with fail
 go_region
 all_goals
  generalize hW1:World.alloc _ _=W1;have aL:ai [] w W1:=by rw[<-hW1];first|exact(ai.refl [] w).drew.alloc _|exact((ai.refl [] w).alloc _).drew|exact(ai.refl [] w).alloc _
  have hk1:W1.drew.heap[w.heap.size]?=some (.cells #[.string x.s.g,.string x.s.n] 87 (0,0)):=by rw[<-hW1];exact heap_alloc_new _ _
  have hO2:ai [] w W1.drew:=aL.drew;clear aL hW1 hx1 hA1 d0 d1 d2 d3 d4 d5 d6 d7 d8 d9 Av BQ BR Dl;generalize W1.drew=W2 at*;obtain⟨kb,hkb⟩: ∃kb,kb=w.heap.size:=⟨_,rfl⟩;rw[<-hkb]at hk1⊢;have hbl:=aj hx;have hpl:=aj hp;have hml:=hM.lt;have hbk:eb<kb:=by omega
  have hpk:K.p<kb:=by omega
  have hmk:K.m<kb:=by omega
  have hkw:w.heap.size<=kb:=by omega
  clear hkb hbl hpl hml;have hE2:=hx.own hO2 (by simp);have jL:aV (W2.setCell ⟨eb,11,none⟩ (.string x.s.g)) eb {x with vg:=x.s.g}:=by
   have:=heap_setCell_same _ eb 11 _ _ (.string x.s.g) hE2;simpa[aV]using this
  have hO3:ai [eb] w (W2.setCell ⟨eb,11,none⟩ (.string x.s.g)):=(hO2.nil).setCell (.inl (by simp)) _;have dO:ai [eb] W2 (W2.setCell ⟨eb,11,none⟩ (.string x.s.g)):=(ai.refl _ _).setCell (.inl (by simp)) _;have X4:=frozen_of_row _ eb 11 _ _ hE2;have b11:=(bK hE2).2.2.2.2.2.2.2.2.2.2.2.1;have k0:W2.cell? ⟨kb,0,none⟩=some (.string x.s.g):=cell_of_row _ kb 0 _ _ _ hk1;have k1:W2.cell? ⟨kb,1,none⟩=some (.string x.s.n):=cell_of_row _ kb 1 _ _ _ hk1;have hk3:=dO.heap hk1 (by simp;omega);have hp3:=hO3.heap hp (by simpa using hbp.symm);have eO:=hM.own hO3 (by simpa using yx.symm);clear c0 c1 c2 c3 c4 c5 c6 c7 c8 c9 c10 c11 c12 c13 p0;generalize hW3:W2.setCell ⟨eb,11,none⟩ (.string x.s.g)=W3 at*;have f0:W3.cell? ⟨kb,0,none⟩=some (.string x.s.g):=cell_of_row _ kb 0 _ _ _ hk3;have f1:W3.cell? ⟨kb,1,none⟩=some (.string x.s.n):=cell_of_row _ kb 1 _ _ _ hk3;have q0:W3.cell? ⟨K.p,0,none⟩=some (.map (some K.m)):=by rw[cell_of_row _ _ _ _ _ _ hp3];rfl
  have hlk:=eO.lookup_no gI iw (x.s.g,x.s.n) (xK W3) hf true;have hlk2:=(eO.own ((ai.refl [] W3).drew) (by simp)).lookup_no gI iw (x.s.g,x.s.n) (xK W3.drew) hf true;simp only[dm,if_true]at hlk hlk2;go_wp2_with fail
  go_region
  all_goals
   go_wp2_with fail
   refine(Nr x.s.g x.s.n W3.drew hbad).mono ?_;rintro e w4 ⟨rfl,rfl⟩;have kH:=jL.own ((ai.refl [] W3).drew) (by simp);obtain⟨iZ,aF,z10⟩:=kH.setc (y:={x with vg:=x.s.g,code:=8}) 10 (.int .i64 8) (fun w' h=>h);have b10:=(bK kH).2.2.2.2.2.2.2.2.2.2.1;have qJ:=af ((hO3.drew).trans aF);change Hid _ at iZ;clear hlk hlk2 f0 f1 q0 jL hO3 eO kH aF hk3 hp3 hM hp hE hO2 dO hE2 k0 k1 b11 X4 hk1;go_wp2_with fail
   go_ret
   exact⟨rfl,iZ.out,qJ.out⟩
theorem Ns(K:aW)(eb:Nat)(x:uR)(w:World)(H:bE w K)(hx:aV w eb x)(hap:eb∉K.feet)(hf:aQ (lX K) (x.s.g,x.s.n)=none)(hg:x.s.g.toList.isEmpty=false)(hn:x.s.n.toList.isEmpty=false)(hl:K.NS.length=8):
  Calls Tryz.prog 55 #[aN K.p,aN eb] w fun e w'=>e=.returned (.bool false)/\aV w' eb {x with vg:=x.s.g,code:=8}/\ai [eb] w w':=by
 have hE:=hx;have hbp:eb≠K.p:=fun e=>hap (by rw[e];exact K.p_mem)
 have yx:eb≠K.m:=fun e=>hap (by rw[e];exact K.m_mem)
 have hp:=H.sp;have hM:dI dm w K.m (lX K):=H.nm;have hpm:K.p≠K.m:=by
  have hn:=oU (A:=[[K.p]]) (C:=[K.m]) (B:=[K.h,K.hm]::bC K.bb K.bv::K.RB::K.NS.map gZ.feet) H.apart;simpa using hn [K.p] (by simp) K.p (by simp)
 obtain⟨c0,c1,c2,c3,c4,c5,c6,c7,c8,c9,c10,c11,c12,c13⟩:=bK hx;have p0:w.cell? ⟨K.p,0,none⟩=some (.map (some K.m)):=by rw[cell_of_row _ _ _ _ _ _ hp];rfl
 change Hid _ at H hap;have hll:Hid ((lX K).length=8):=af (by unfold lX;simpa using hl);clear hl;go_enter Tryz.func55,Tryz.ntmps55
 have hA1:=(ai.refl [] w).alloc (.cells #[.string ⟨#[]⟩,.string ⟨#[]⟩] 87);have hx1:=hx.own hA1 (by simp);obtain⟨d0,d1,d2,d3,d4,d5,d6,d7,d8,d9,Av,BQ,BR,Dl⟩:=bK hx1;go_wp2_with fail
 go_region
 all_goals
  generalize hW1:World.alloc _ _=W1;have aL:ai [] w W1:=by rw[<-hW1];first|exact(ai.refl [] w).drew.alloc _|exact((ai.refl [] w).alloc _).drew|exact(ai.refl [] w).alloc _
  have hk1:W1.drew.heap[w.heap.size]?=some (.cells #[.string x.s.g,.string x.s.n] 87 (0,0)):=by rw[<-hW1];exact heap_alloc_new _ _
  have hO2:ai [] w W1.drew:=aL.drew;clear aL hW1 hx1 hA1 d0 d1 d2 d3 d4 d5 d6 d7 d8 d9 Av BQ BR Dl;generalize W1.drew=W2 at*;obtain⟨kb,hkb⟩: ∃kb,kb=w.heap.size:=⟨_,rfl⟩;rw[<-hkb]at hk1⊢;have hbl:=aj hx;have hpl:=aj hp;have hml:=hM.lt;have hbk:eb<kb:=by omega
  have hpk:K.p<kb:=by omega
  have hmk:K.m<kb:=by omega
  have hkw:w.heap.size<=kb:=by omega
  clear hkb hbl hpl hml;have hE2:=hx.own hO2 (by simp);have jL:aV (W2.setCell ⟨eb,11,none⟩ (.string x.s.g)) eb {x with vg:=x.s.g}:=by
   have:=heap_setCell_same _ eb 11 _ _ (.string x.s.g) hE2;simpa[aV]using this
  have hO3:ai [eb] w (W2.setCell ⟨eb,11,none⟩ (.string x.s.g)):=(hO2.nil).setCell (.inl (by simp)) _;have dO:ai [eb] W2 (W2.setCell ⟨eb,11,none⟩ (.string x.s.g)):=(ai.refl _ _).setCell (.inl (by simp)) _;have X4:=frozen_of_row _ eb 11 _ _ hE2;have b11:=(bK hE2).2.2.2.2.2.2.2.2.2.2.2.1;have k0:W2.cell? ⟨kb,0,none⟩=some (.string x.s.g):=cell_of_row _ kb 0 _ _ _ hk1;have k1:W2.cell? ⟨kb,1,none⟩=some (.string x.s.n):=cell_of_row _ kb 1 _ _ _ hk1;have hk3:=dO.heap hk1 (by simp;omega);have hp3:=hO3.heap hp (by simpa using hbp.symm);have eO:=hM.own hO3 (by simpa using yx.symm);clear c0 c1 c2 c3 c4 c5 c6 c7 c8 c9 c10 c11 c12 c13 p0;generalize hW3:W2.setCell ⟨eb,11,none⟩ (.string x.s.g)=W3 at*;have f0:W3.cell? ⟨kb,0,none⟩=some (.string x.s.g):=cell_of_row _ kb 0 _ _ _ hk3;have f1:W3.cell? ⟨kb,1,none⟩=some (.string x.s.n):=cell_of_row _ kb 1 _ _ _ hk3;have q0:W3.cell? ⟨K.p,0,none⟩=some (.map (some K.m)):=by rw[cell_of_row _ _ _ _ _ _ hp3];rfl
  have hlk:=eO.lookup_no gI iw (x.s.g,x.s.n) (xK W3) hf true;have hlk2:=(eO.own ((ai.refl [] W3).drew) (by simp)).lookup_no gI iw (x.s.g,x.s.n) (xK W3.drew) hf true;simp only[dm,if_true]at hlk hlk2;go_wp2_with fail
  go_region
  all_goals
   go_wp2_with fail
   refine(zF x.s.g x.s.n W3.drew hg hn).mono ?_;rintro e w4 ⟨n,L,rfl,hEd,hft,hO4⟩;have lq:ai [] W3 w4:=(ai.refl [] W3).drew.trans hO4;have hz3:=hO3.size;have hk4:=lq.heap hk3 (by simp);have Ar:=lq.heap hp3 (by simp);have xX:=eO.own lq (by simp);have kH:=jL.own lq (by simp);have g0:w4.cell? ⟨kb,0,none⟩=some (.string x.s.g):=cell_of_row _ kb 0 _ _ _ hk4;have g1:w4.cell? ⟨kb,1,none⟩=some (.string x.s.n):=cell_of_row _ kb 1 _ _ _ hk4;have r0:w4.cell? ⟨K.p,0,none⟩=some (.map (some K.m)):=by rw[cell_of_row _ _ _ _ _ _ Ar];rfl
   have hlen:=xX.len_run (P:=Tryz.prog) iw;rw[hll.out]at hlen;obtain⟨iZ,aF,z10⟩:=kH.setc (y:={x with vg:=x.s.g,code:=8}) 10 (.int .i64 8) (fun w' h=>h);have b10:=(bK kH).2.2.2.2.2.2.2.2.2.2.1;have qJ:=af ((hO3.trans lq.nil).trans aF);change Hid _ at iZ;clear hlk hlk2 f0 f1 q0 jL hO3 eO kH aF hk3 hp3 hM hp hE hO2 dO hE2 k0 k1 b11 X4 hk1 hEd hft hO4 lq hk4 Ar xX;go_wp2_with fail
   go_ret
   exact⟨rfl,iZ.out,qJ.out⟩
theorem Je{l:List (Rk×Value)}{k:Rk}{v:Value}(h:aQ l k=none):bX l k v=l++[(k,v)]:=by
 induction l with
 |nil=>rfl
 |cons p r ih=>
  cases hp:(p.1==k)with
  |true=>simp[aQ,hp]at h
  |false=>
   have h2:aQ r k=none:=by simpa[aQ,hp]using h
   simp[bX,hp,ih h2]
theorem Wm{α:Type}{l:List (Rk×α)}{k:Rk}(h:aQ l k=none):k∉l.map (·.1):=by
 induction l with
 |nil=>simp
 |cons p r ih=>
  cases hp:(p.1==k)with
  |true=>simp[aQ,hp]at h
  |false=>
   have h2:aQ r k=none:=by simpa[aQ,hp]using h
   have h3:k≠p.1:=fun e=>by rw[e]at hp;simp at hp
   simp only[List.map_cons,List.mem_cons,not_or];exact⟨h3,ih h2⟩
theorem RD{K:aW}{k:Rk}(h:aQ (lX K) k=none):k∉K.NS.map gZ.key:=by
 have:=Wm h;unfold lX at this;simpa using this
theorem RF(K:aW)(eb:Nat)(x:uR)(w:World)(H:bE w K)(hx:aV w eb x)(hap:eb∉K.feet)(hf:aQ (lX K) (x.s.g,x.s.n)=none)(hg:x.s.g.toList.isEmpty=false)(hn:x.s.n.toList.isEmpty=false)(hl:K.NS.length<8):
  Calls Tryz.prog 55 #[aN K.p,aN eb] w fun e w'=>e=.returned (.bool true)/\ ∃n L,aV w' eb {x with vg:=x.s.g,node:=aN n}/\bE w' {K with NS:=K.NS++[⟨x.s.g,x.s.n,n,L,⟨false,0,0,false,false,[],[],[]⟩⟩]}/\ai [eb,K.m] w w'/\ ∀z∈aW.feet {K with NS:=K.NS++[⟨x.s.g,x.s.n,n,L,⟨false,0,0,false,false,[],[],[]⟩⟩]},z∈K.feet\/w.heap.size<=z:=by
 have hE:=hx;have hbp:eb≠K.p:=fun e=>hap (by rw[e];exact K.p_mem)
 have yx:eb≠K.m:=fun e=>hap (by rw[e];exact K.m_mem)
 have hp:=H.sp;have hM:dI dm w K.m (lX K):=H.nm;have hpm:K.p≠K.m:=by
  have hn:=oU (A:=[[K.p]]) (C:=[K.m]) (B:=[K.h,K.hm]::bC K.bb K.bv::K.RB::K.NS.map gZ.feet) H.apart;simpa using hn [K.p] (by simp) K.p (by simp)
 obtain⟨c0,c1,c2,c3,c4,c5,c6,c7,c8,c9,c10,c11,c12,c13⟩:=bK hx;have p0:w.cell? ⟨K.p,0,none⟩=some (.map (some K.m)):=by rw[cell_of_row _ _ _ _ _ _ hp];rfl
 change Hid _ at hap;replace H:=af H;have hll:Hid ((lX K).length<8):=af (by unfold lX;simpa using hl);have hl8:=af hl;clear hl;go_enter Tryz.func55,Tryz.ntmps55
 have hA1:=(ai.refl [] w).alloc (.cells #[.string ⟨#[]⟩,.string ⟨#[]⟩] 87);have hx1:=hx.own hA1 (by simp);obtain⟨d0,d1,d2,d3,d4,d5,d6,d7,d8,d9,Av,BQ,BR,Dl⟩:=bK hx1;go_wp2_with fail
 go_region
 all_goals
  generalize hW1:World.alloc _ _=W1;have aL:ai [] w W1:=by rw[<-hW1];first|exact(ai.refl [] w).drew.alloc _|exact((ai.refl [] w).alloc _).drew|exact(ai.refl [] w).alloc _
  have hk1:W1.drew.heap[w.heap.size]?=some (.cells #[.string x.s.g,.string x.s.n] 87 (0,0)):=by rw[<-hW1];exact heap_alloc_new _ _
  have hO2:ai [] w W1.drew:=aL.drew;clear aL hW1 hx1 hA1 d0 d1 d2 d3 d4 d5 d6 d7 d8 d9 Av BQ BR Dl;generalize W1.drew=W2 at*;obtain⟨kb,hkb⟩: ∃kb,kb=w.heap.size:=⟨_,rfl⟩;rw[<-hkb]at hk1⊢;have hbl:=aj hx;have hpl:=aj hp;have hml:=hM.lt;have hbk:eb<kb:=by omega
  have hpk:K.p<kb:=by omega
  have hmk:K.m<kb:=by omega
  have hkw:w.heap.size<=kb:=by omega
  clear hkb hbl hpl hml;have hE2:=hx.own hO2 (by simp);have jL:aV (W2.setCell ⟨eb,11,none⟩ (.string x.s.g)) eb {x with vg:=x.s.g}:=by
   have:=heap_setCell_same _ eb 11 _ _ (.string x.s.g) hE2;simpa[aV]using this
  have hO3:ai [eb] w (W2.setCell ⟨eb,11,none⟩ (.string x.s.g)):=(hO2.nil).setCell (.inl (by simp)) _;have dO:ai [eb] W2 (W2.setCell ⟨eb,11,none⟩ (.string x.s.g)):=(ai.refl _ _).setCell (.inl (by simp)) _;have X4:=frozen_of_row _ eb 11 _ _ hE2;have b11:=(bK hE2).2.2.2.2.2.2.2.2.2.2.2.1;have k0:W2.cell? ⟨kb,0,none⟩=some (.string x.s.g):=cell_of_row _ kb 0 _ _ _ hk1;have k1:W2.cell? ⟨kb,1,none⟩=some (.string x.s.n):=cell_of_row _ kb 1 _ _ _ hk1;have hk3:=dO.heap hk1 (by simp;omega);have hp3:=hO3.heap hp (by simpa using hbp.symm);have eO:=hM.own hO3 (by simpa using yx.symm);clear c0 c1 c2 c3 c4 c5 c6 c7 c8 c9 c10 c11 c12 c13 p0;generalize hW3:W2.setCell ⟨eb,11,none⟩ (.string x.s.g)=W3 at*;have f0:W3.cell? ⟨kb,0,none⟩=some (.string x.s.g):=cell_of_row _ kb 0 _ _ _ hk3;have f1:W3.cell? ⟨kb,1,none⟩=some (.string x.s.n):=cell_of_row _ kb 1 _ _ _ hk3;have q0:W3.cell? ⟨K.p,0,none⟩=some (.map (some K.m)):=by rw[cell_of_row _ _ _ _ _ _ hp3];rfl
  have hlk:=eO.lookup_no gI iw (x.s.g,x.s.n) (xK W3) hf true;have hlk2:=(eO.own ((ai.refl [] W3).drew) (by simp)).lookup_no gI iw (x.s.g,x.s.n) (xK W3.drew) hf true;simp only[dm,if_true]at hlk hlk2;go_wp2_with fail
  go_region
  all_goals
   go_wp2_with fail
   refine(zF x.s.g x.s.n W3.drew hg hn).mono ?_;rintro e w4 ⟨n,L,rfl,hEd,hft,hO4⟩;have lq:ai [] W3 w4:=(ai.refl [] W3).drew.trans hO4;have hz3:=hO3.size;have hk4:=lq.heap hk3 (by simp);have Ar:=lq.heap hp3 (by simp);have xX:=eO.own lq (by simp);have kH:=jL.own lq (by simp);have g0:w4.cell? ⟨kb,0,none⟩=some (.string x.s.g):=cell_of_row _ kb 0 _ _ _ hk4;have g1:w4.cell? ⟨kb,1,none⟩=some (.string x.s.n):=cell_of_row _ kb 1 _ _ _ hk4;have r0:w4.cell? ⟨K.p,0,none⟩=some (.map (some K.m)):=by rw[cell_of_row _ _ _ _ _ _ Ar];rfl
   have hlen:=xX.len_run (P:=Tryz.prog) iw;have hl9: ¬(8:Int)<=((lX K).length:Int):=by have:=hll.out;omega
   obtain⟨w5,hu,hM5,gY,hs5⟩:=(xX.own ((ai.refl [] w4).drew) (by simp)).update gI iw (x.s.g,x.s.n) (.pointer (some ⟨n,0,none⟩));simp only[dm]at hu;have aF:ai [K.m] w4 w5:=(ai.refl [K.m] w4).drew.trans gY;have iZ:=kH.own aF (by simpa using yx);have z9:=frozen_of_row _ eb 9 _ _ iZ;have b9:=(bK iZ).2.2.2.2.2.2.2.2.2.1;have adj:bE W3 K:=H.out.own hO3 (fun z hz hc=>by simp at hc;subst hc;exact hap.out hz);have hm3:=eO.lt;have ol:ai [K.m] W3 w5:=lq.nil.trans aF;have adk:au w5 n x.s.g x.s.n L ⟨false,0,0,false,false,[],[],[]⟩:=hEd.own aF (fun z hz hc=>by
    simp at hc;have h1:=hft z hz;simp at h1;omega)
   rw[Je hf]at hM5;obtain⟨nI,Lc⟩:=adj.push (x:=⟨x.s.g,x.s.n,n,L,⟨false,0,0,false,false,[],[],[]⟩⟩) adk ol hM5 (fun z hz=>by have:=hft z hz;simpa using this) (RD hf) hl8.out;have hel:=aj jL;have hno:eb∉aW.feet {K with NS:=K.NS++[⟨x.s.g,x.s.n,n,L,⟨false,0,0,false,false,[],[],[]⟩⟩]}:=fun hx=>by
    rcases Lc eb hx with h1|h1
    ·exact hap.out h1
    ·omega
   obtain⟨Gm,bI,_⟩:=iZ.setc (y:={x with vg:=x.s.g,node:=aN n}) 9 (aN n) (fun w' h=>h);have afU:=af (nI.own bI (fun z hz hc=>by simp at hc;subst hc;exact hno hz));have qJ:=af (((hO3.mono (by intro z hz;simp at hz;subst hz;simp):ai [eb,K.m] w W3).trans (ol.mono (by simp))).trans (bI.mono (by intro z hz;simp at hz;subst hz;simp)));have hFf:=af (fun z hz=>(Lc z hz).imp id (fun h=>Nat.le_trans hz3 h));change Hid _ at Gm;clear hlk hlk2 f0 f1 q0 jL hO3 eO hk3 hp3 hM hp hE hO2 dO hE2 k0 k1 b11 X4 hk1 hEd hft hO4 lq hk4 Ar xX kH hM5 gY aF adj ol adk nI Lc iZ bI hno;go_wp2_with fail
   go_region
   all_goals
    go_wp2_with fail
    go_ret
    exact⟨rfl,n,L,Gm.out,afU.out,qJ.out,hFf.out⟩
end Go.Proofs.YtedcakchekaemaaGreatDoor
namespace Go.Proofs.YtedcakchekaemaaGreatDoor
open Go.RowKit
theorem NP(a:Option Addr)(c:Nat)(fv:Value)(W:World):Calls Tryz.prog 104 #[.slice a 1 c,.int .i64 0,.int .i64 1,fv] W fun e w'=>e=.returned (.tuple #[])/\W=w':=by
 go_enter Tryz.func104,Tryz.ntmps104
 go_wp2_with fail
 refine wp_loop_rounds 1 ?_;rw[rounds_succ];go_wp2_with fail
 go_end0
 exact⟨rfl,rfl⟩
theorem NQ(a:Option Addr)(c:Nat)(fv:Value)(n:Int)(W:World):Calls Tryz.prog 63 #[.slice a 1 c,.int .i64 0,.int .i64 1,.int .i64 n,fv] W fun e w'=>e=.returned (.tuple #[])/\W=w':=by
 have H:=af (fun W=>NP a c fv W);go_enter Tryz.func63,Tryz.ntmps63
 go_wp2_with fail
 refine wp_loop_rounds 1 ?_;rw[rounds_succ];go_wp2_with(go_at_call 104;refine(H.out _).mono ?_;rintro e w' ⟨rfl,rfl⟩)
 (try simp only[Exit.inBlock,Exit.then]);refine bodyPost_ret (results_none rfl _ _ _) rfl ?_
 exact⟨rfl,rfl⟩
theorem JC(a:Option Addr)(c:Nat)(fv:Value)(W:World):Calls Tryz.prog 26 #[.slice a 1 c,fv] W fun e w'=>e=.returned (.tuple #[])/\ai [] W w':=by
 have H:=af (fun n W=>NQ a c fv n W);go_enter Tryz.func26,Tryz.ntmps26
 go_wp2_with(first|(go_at_call 63;refine(H.out _ _).mono ?_;rintro e w' ⟨rfl,rfl⟩)|go_in)
 go_end0
 exact⟨rfl,ai.refl _ _⟩
structure NV where
 g:ByteArray
 n:ByteArray
 p:Bool
def vU(x:NV):List Value:=[.string x.g,.string x.n,.bool false,.int .i64 0,.int .i64 0,.bool x.p,.slice none 0 0,.slice none 0 0]
theorem ZT:(Tryz.prog.info? 38).map (fun i=>(i.zero,i.size,i.bytes))=some (some (.agg #[.string ⟨#[]⟩,.string ⟨#[]⟩,.bool false,.int .i64 0,.int .i64 0,.bool false,.slice none 0 0,.slice none 0 0]),8,112):=by kernel_rfl
theorem ZU:jG Tryz.prog 33 38 vU 8 112 where
 ut:=Tryz.underlying33
 info:=by obtain⟨i,h1,h2,h3,h4⟩:=info_parts ZT;exact⟨i,_,h1,h2,h3,h4,rfl⟩
 pos:=by omega
 len:=fun _=>rfl
 one x u hu:=by simp only[vU,List.mem_cons,List.not_mem_nil,or_false]at hu;rcases hu with rfl|rfl|rfl|rfl|rfl|rfl|rfl|rfl<;>rfl
theorem NR{p m n rr a:Nat}{g nm:ByteArray}{pe:Bool}(W:World)(h0:W.cell? ⟨p,0,none⟩=some (.map (some m)))(hM:dI dm W m [((g,nm),.pointer (some ⟨n,0,none⟩))])(hF:nP W n rr a g nm pe):
  Calls Tryz.prog 10 #[aN p] W fun e w'=>(∃a c,e=.returned (.slice a 1 c))/\ai [] W w':=by
 have cN:=af (oq p m W h0);obtain⟨w1,hr,hI,hO,_⟩:=hM.range (P:=Tryz.prog) iw;rcases hI.next (P:=Tryz.prog) 0 with⟨hn,_⟩|⟨r1,r2,q,w2,gX,h1,hI2,hO2,hs2,hen⟩
 ·simp at hn
 have agp:r1=[]/\r2=[]/\q=((g,nm),.pointer (some ⟨n,0,none⟩)):=by
  cases r1 with
  |nil=>
   simp at gX;exact⟨rfl,gX.2,gX.1.symm⟩
  |cons x r1=>simp at gX
 obtain⟨rfl,rfl,rfl⟩:=agp;have hnx: ∀ty,(Instr.next (.pointer (some ⟨W.heap.size,0,none⟩)) false ty).run Tryz.prog w1=.ok (.tuple #[.bool true,dm (g,nm),.pointer (some ⟨n,0,none⟩)]) w2:=fun ty=>h1
 simp only[dm]at hnx hen;have dx:ai [] W w2:=hO.trans' hO2 (by simp);have cV:=af (DU (hF.own dx));have hIn:=af fun W' (ho:ai [] w2 W')=>(hI2.own ho (by simp) (by simp))
 have cS:=af fun a c fv W=>JC a c fv W
 replace dx:=af dx;clear gX h1 hI hI2 hO2 hM hF hO;go_enter Tryz.func10,Tryz.ntmps10
 go_wp2_with(go_at_call 22;((with_reducible refine cN.out.mono ?_);rintro e w2 ⟨rfl,rfl⟩))
 refine wp_loop_rounds 2 ?_;rw[rounds_succ];go_wp2_with fail
 with_reducible refine cV.out.mono ?_
 rintro e w3 ⟨rfl,hO3⟩;have hOb:Hid (ai [] (w3.alloc (.cells (vU ⟨g,nm,pe⟩).toArray 38)) (w3.alloc (.cells (vU ⟨g,nm,pe⟩).toArray 38))):=af (ai.refl _ _);have hSb:Hid (Sl 38 vU 8 (w3.alloc (.cells (vU ⟨g,nm,pe⟩).toArray 38)).heap.size (w3.alloc (.cells (vU ⟨g,nm,pe⟩).toArray 38)) (.slice none 0 0) ([]:List NV)):=af (Sl.nil _ _ _);have hRb:=af (aG.new (enc:=vU) (T:=38) w3 ⟨g,nm,pe⟩ 1);have hO4:=af (hO3.alloc (.cells (vU ⟨g,nm,pe⟩).toArray 38));clear hO3;go_wp2_with(at_builtin;refine jr rfl (.tmp 17) (.tmp 20) rfl ZU hOb.out rfl hSb.out rfl hRb.out (by simp) (by simp[maxLen]) ?_;intro va w5 hS5 aF _ _;obtain⟨a2,c2,rfl⟩:=hS5.sl;replace aF:=af aF;clear hS5)
 have gY:ai [] w2 w5:=hO4.out.trans aF.out;rcases(hIn.out w5 gY).next (P:=Tryz.prog) 0 with⟨_,hf⟩|⟨r1,r2,q,w6,gX,_⟩
 ·have hnf: ∀ty,(Instr.next (.pointer (some ⟨W.heap.size,0,none⟩)) false ty).run Tryz.prog w5=.ok (.tuple #[.bool false]) w5:=fun ty=>hf
  have hOe:=af (dx.out.trans gY);clear hf hnx hen hIn hOb hSb hRb hO4 aF gY cV cN;rw[rounds_succ];go_wp2_with(go_at_call 26;((with_reducible refine(cS.out _ _ _ _).mono ?_);rintro e w7 ⟨rfl,eU⟩;replace eU:=af eU))
  go_ret
  exact⟨⟨_,_,rfl⟩,hOe.out.trans eU.out⟩
 ·have:=congrArg List.length gX
  simp at this
theorem NT{p m:Nat}{h bb r:Value}{n:Int}(W:World)(hp:W.heap[p]?=some (.cells #[.map (some m),h,bb,r,.int .i64 n] 73 (0,0))):
  Calls Tryz.prog 30 #[aN p] W fun e w'=>e=.returned (.int .i64 n)/\W=w':=by
 have h0:W.cell? ⟨p,0,none⟩=some (.map (some m)):=by rw[cell_of_row _ _ _ _ _ _ hp];rfl
 have h4:W.cell? ⟨p,4,none⟩=some (.int .i64 n):=by rw[cell_of_row _ _ _ _ _ _ hp];rfl
 have cN:=af (oq p m W h0);clear hp;go_enter Tryz.func30,Tryz.ntmps30
 go_wp2_with(go_at_call 22;((with_reducible refine cN.out.mono ?_);rintro e w2 ⟨rfl,rfl⟩))
 go_ret
 exact⟨rfl,rfl⟩
theorem FO(W:World):Calls Tryz.prog 19 #[.int .i64 10] W fun e w'=> ∃s,e=.returned (.tuple #[aN s,.int .i64 0])/\w'.heap[s]?=some (.cells #[.int .i64 10,.slice none 0 0,.bool true] 143 (0,0))/\ai [] W w'/\W.heap.size<=s:=by
 go_enter Tryz.func19,Tryz.ntmps19
 go_wp2_with(go_in)
 go_ret2
 exact⟨_,rfl,heap_alloc_new _ _,(ai.refl _ _).alloc _,Nat.le_refl _⟩
theorem NN(W:World):Calls Tryz.prog 8 #[] W fun e w'=> ∃p m h hm bb r,e=.returned (aN p)/\SN w' p m h hm bb r/\ai [] W w'/\W.heap.size<=p/\W.heap.size<=m/\W.heap.size<=r:=by
 have hmm:= @run_makeMap Tryz.prog;have cR:=af (fun W=>FO W);have cH:=af (fun W=>Vo W);have cB:=af (fun W=>LD W);go_enter Tryz.func8,Tryz.ntmps8
 go_wp2_with fail
 with_reducible refine(cR.out _).mono ?_
 rintro e w1 ⟨r,rfl,hR,aL,hr1⟩;change Hid _ at hR;replace aL:=af aL;go_wp2_with fail
 have hO2:=af (aL.out.alloc (.map #[] 0));have hM:=af (dI.made (enc:=dm) w1);have hR2:=af (((ai.refl [] w1).alloc (.map #[] 0)).heap hR.out (by simp));with_reducible refine(cH.out _).mono ?_
 rintro e w3 ⟨h,hm,rfl,hH,hO3⟩;have eO:=af (hM.out.own hO3 (by simp));have fB:=af (hO3.heap hR2.out (by simp));replace hO3:=af (hO2.out.trans hO3);replace hH:=af hH;clear hM hR2 hR;go_wp2_with fail
 with_reducible refine(cB.out _).mono ?_
 rintro e w4 ⟨bb,rfl,hB,hO4⟩;have xX:=af (eO.out.own hO4 (by simp));have qA:=af (hO4.heap fB.out (by simp));have hH4:=af (hH.out.own hO4);replace hO4:=af (hO3.out.trans hO4);change Hid _ at hB;clear eO fB hH;go_wp2_with fail
 go_ret
 have hA:=(ai.refl [] w4).alloc (.cells #[.map (some w1.heap.size),aN h,aN bb,aN r,.int .i64 0] 73);exact⟨_,_,_,_,_,_,rfl,⟨heap_alloc_new _ _,xX.out.own hA (by simp),hH4.out.own hA,hA.heap hB.out (by simp),hA.heap qA.out (by simp)⟩,hO4.out.trans hA,hO4.out.size,aL.out.size,hr1⟩
end Go.Proofs.YtedcakchekaemaaGreatDoor
namespace Go.Proofs.YtedcakchekaemaaGreatDoor
open Go.RowKit
variable [Kd]
def ZV:SP:=⟨[],[],[],[],0⟩
theorem JD(W:World):Calls Tryz.prog 21 #[] W fun e w'=> ∃s,e=.returned (aN s)/\w'.heap[s]?=some (.cells #[.slice none 0 0,.bool true] 150 (0,0))/\ai [] W w'/\W.heap.size<=s:=by
 go_enter Tryz.func21,Tryz.ntmps21
 go_wp2_with fail
 go_ret
 exact⟨_,rfl,heap_alloc_new _ _,(ai.refl _ _).alloc _,Nat.le_refl _⟩
theorem SB{w:World}{r:Nat}(h:w.heap[r]?=some (.cells #[.int .i64 10,.slice none 0 0,.bool true] 143 (0,0))):oz w r 10 [r] []:=
 ⟨by simp,by simp,⟨by omega,by omega⟩,.slice none 0 0,[],⟨h,⟨⟨rfl,.inl ⟨rfl,rfl⟩⟩,by simp,by simp⟩,by simp[Value.ownBlock],by simp⟩,List.Perm.refl _,by simp,by simp[Value.ownBlock],by simp⟩
theorem ZW{w:World}{b:Nat}(h:w.heap[b]?=some (.cells #[.slice none 0 0,.bool true] 150 (0,0))):kL w b (.slice none 0 0) []:=
 ⟨h,Sl.nil _ _ _,by simp[Value.ownBlock],by simp⟩
def BF(w:World)(e:Ending)(w':World):Prop:= ∃K:aW,e=.returned (aN K.p)/\bE w' K/\K.sp=ZV/\ai [] w w'/\ ∀z∈K.feet,w.heap.size<=z
theorem NU{W w':World}{p m h hm bb r:Nat}(h0:W.heap.size<=r)(h1:r<m)(h2:m<h/\m<hm)(h4:h<bb/\hm<bb)(h5:bb<p)(hsp:w'.heap[p]?=some (.cells #[.map (some m),aN h,aN bb,aN r,.int .i64 0] 73 (0,0)))(hM:dI dm w' m [])(hH:kM w' h hm [])
  (hB:w'.heap[bb]?=some (.cells #[.slice none 0 0,.bool true] 150 (0,0)))(hR:w'.heap[r]?=some (.cells #[.int .i64 10,.slice none 0 0,.bool true] 143 (0,0)))(ho:ai [] W w'):BF W (.returned (aN p)) w':=by
 have hl:=aj hsp;refine⟨⟨p,m,h,hm,bb,.slice none 0 0,r,[r],[],[],[],[],0⟩,rfl,⟨hsp,hM,by simp,hH,ZW hB,SB hR,?_,?_,by simp,by simp,⟨Int.le_refl _,show(0:Int)<=1000000 by decide⟩⟩,rfl,ho,?_⟩
 ·simp only[aW.parts,List.map_nil,bC,Value.ownBlock,Option.toList_none,List.pairwise_cons,List.mem_cons,List.not_mem_nil,or_false,Dj,forall_eq_or_imp,forall_eq,List.Pairwise.nil,and_true,false_implies,implies_true]
  simp;omega
 ·simp[aW.feet,aW.parts,bC,Value.ownBlock]
  omega
 ·simp[aW.feet,aW.parts,bC,Value.ownBlock]
  omega
theorem NW(W:World):Calls Tryz.prog 8 #[] W (BF W):=by
 have hmm:= @run_makeMap Tryz.prog;have cR:=af (fun W=>FO W);have cH:=af (fun W=>Rp W);have cB:=af (fun W=>JD W);go_enter Tryz.func8,Tryz.ntmps8
 go_wp2_with fail
 with_reducible refine(cR.out _).mono ?_
 rintro e w1 ⟨r,rfl,hR,aL,hr1⟩;have hrl:=af (aj hR);change Hid _ at hR hr1;replace aL:=af aL;go_wp2_with fail
 have hO2:=af (aL.out.alloc (.map #[] 0));have hM:=af (dI.made (enc:=dm) w1);have hR2:=af (((ai.refl [] w1).alloc (.map #[] 0)).heap hR.out (by simp));with_reducible refine(cH.out _).mono ?_
 rintro e w3 ⟨h,hm,rfl,hH,hh1,hh2,hO3⟩;have eO:=af (hM.out.own hO3 (by simp));have fB:=af (hO3.heap hR2.out (by simp));replace hO3:=af (hO2.out.trans hO3);have hhl:=af hH.lt;replace hH:=af hH;have hhg:Hid (w1.heap.size<h/\w1.heap.size<hm):=af (by simp at hh1 hh2;omega);clear hM hR2 hR hh1 hh2;go_wp2_with fail
 with_reducible refine(cB.out _).mono ?_
 rintro e w4 ⟨bb,rfl,hB,hO4,hbb⟩;have xX:=af (eO.out.own hO4 (by simp));have qA:=af (hO4.heap fB.out (by simp));have hH4:=af (hH.out.own hO4 (by simp) (by simp));replace hO4:=af (hO3.out.trans hO4);have hbl:=af (aj hB);change Hid _ at hB hbb;clear eO fB hH;go_wp2_with fail
 go_ret
 have hA:=(ai.refl [] w4).alloc (.cells #[.map (some w1.heap.size),aN h,aN bb,aN r,.int .i64 0] 73);exact NU hr1.out hrl.out hhg.out (by have:=hhl.out;have:=hbb.out;omega) hbl.out (heap_alloc_new _ _) (xX.out.own hA (by simp)) (hH4.out.own hA (by simp) (by simp)) (hA.heap hB.out (by simp)) (hA.heap qA.out (by simp)) (hO4.out.trans hA)
def ql(S:SP)(w:World)(e:Ending)(w':World):Prop:= ∃v',e=.returned v'/\Sl 43 lU 2 w.heap.size w' v' (S.bi.map iV)/\ai [] w w'
theorem xg(K:aW)(w:World)(H:bE w K):Calls Tryz.prog 12 #[aN K.p] w (ql K.sp w):=by
 obtain⟨c0,_,c2,_⟩:=H.c;have cN:=af (oq K.p K.m w c0);have cB:=af (Rm K.bb K.bv K.bi w H.bi);unfold ql aW.sp;simp only;generalize K.bi.map iV=LT at*;clear H;go_enter Tryz.func12,Tryz.ntmps12
 go_wp2_with(first
  |(go_at_call 22;((with_reducible refine cN.out.mono ?_);rintro e w2 ⟨rfl,rfl⟩))
  |(go_at_call 31;((with_reducible refine cB.out.mono ?_);rintro e w2 ⟨v',rfl,hS,hO⟩;replace hS:=af hS;replace hO:=af hO)))
 go_ret
 exact⟨_,rfl,hS.out,hO.out⟩
end Go.Proofs.YtedcakchekaemaaGreatDoor
