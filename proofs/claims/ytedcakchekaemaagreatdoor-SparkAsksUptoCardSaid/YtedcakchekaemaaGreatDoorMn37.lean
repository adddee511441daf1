import Derived.Test.YtedcakchekaemaaGreatDoorMn34
import Derived.Test.YtedcakchekaemaaGreatDoorMn35
import Derived.Test.YtedcakchekaemaaGreatDoorShelfNv
set_option maxRecDepth 100000
set_option maxHeartbeats 16000000
set_option linter.all false
namespace Go.Proofs.YtedcakchekaemaaGreatDoor
open Go.RowKit
theorem Hy(p b n r a:Nat)(g nm:ByteArray)(pe:Bool)(x:sI)(w:World)(h:aQ w b x)(ht:x.text=⟨#[]⟩)(hk:x.s.k=3)(hn:x.node=.pointer (some ⟨n,0,none⟩))(hF:mg w n r a g nm pe)
  (hnr:n≠r)(hbn:b≠n)(hbr:b≠r):Calls Tryz.prog 56 #[aK p,aK b] w fun e w'=>e=.returned (.bool true)/\ai [b,n] w w'/\aQ w' b {x with code:=5}/\mg w' n r a g nm true:=by
 obtain⟨c0,c1,c2,c3,c4,c5,c6,c7,c8,c9,c10,c11,c12,c13⟩:=bE h;rw[ht]at c2;obtain⟨cc,oo,hq⟩: ∃cc oo,(convert 9 23 (.string ⟨#[]⟩)).run Tryz.prog w=.ok (.slice (some ⟨w.heap.size,0,none⟩) 0 cc) (w.drew.alloc oo):=
  ⟨_,_,run_bytes_of_string w 9 23 5 ⟨#[]⟩ Tryz.underlying9 Tryz.underlying23 Tryz.underlying5⟩
 have aH:ai [] w (w.drew.alloc oo):=(ai.refl [] w).drew.alloc oo;have cP:=af Nt;go_enter Tryz.func56,Tryz.ntmps56
 go_wp2_with fail
 refine(cP.out _ _ _).mono ?_;rintro e w1 ⟨rfl,hO⟩;unfold jU;have hO2:ai [] w w1:=aH.trans hO;have hE1:=h.own hO2 (by simp);have hF1:=hF.own hO2;have hP1:=(ai.refl [] w1).alloc (.cells #[.int .u64 0,.bool false,.int .u64 0,.string ⟨#[]⟩,.string ⟨#[]⟩,.slice none 0 0] 54);obtain⟨d0,d1,d2,d3,d4,d5,d6,d7,d8,d9,zh,Ak,Al,BG⟩:=bE (hE1.own hP1 (by simp));rw[hn]at d9;rw[hk]at d5;obtain⟨y0,y1,y2,y3,y4,y5⟩:=Ns (heap_alloc_new w1 (.cells #[.int .u64 0,.bool false,.int .u64 0,.string ⟨#[]⟩,.string ⟨#[]⟩,.slice none 0 0] 54));go_wp2_with fail
 have hF2:=hF1.own hP1;have hE2:=hE1.own hP1 (by simp);have hO3:ai [b,n] w (w1.alloc (.cells #[.int .u64 0,.bool false,.int .u64 0,.string ⟨#[]⟩,.string ⟨#[]⟩,.slice none 0 0] 54)):=(hO2.alloc _).nil;have hn1:n<w1.heap.size:=Nat.lt_of_lt_of_le (aj hF.1) hO2.size;have hb1:b<w1.heap.size:=Nat.lt_of_lt_of_le (aj h) hO2.size;generalize w1.alloc (.cells #[.int .u64 0,.bool false,.int .u64 0,.string ⟨#[]⟩,.string ⟨#[]⟩,.slice none 0 0] 54)=W at*;have cT:=af (fun W' (hF:mg W' n r a g nm pe)=>Cb hF hnr x.s.d);unfold jU at cT;replace hF2:=af hF2;have hFd:Hid (mg W.drew n r a g nm pe):=af (hF2.out.own ((ai.refl [] W).drew));have hS:Hid (∀W' y,ai [b,n] W W'->aQ W' b y->y.s=x.s->y.node=x.node->W'.cell? ⟨b,9,none⟩=some (.pointer (some ⟨n,0,none⟩))/\W'.cell? ⟨b,5,none⟩=some (.int .i64 3)/\W'.cell? ⟨b,8,none⟩=some (.string x.s.d)/\W'.cell? ⟨w1.heap.size,0,none⟩=some (.int .u64 0)/\W'.cell? ⟨w1.heap.size,1,none⟩=some (.bool false)/\W'.cell? ⟨w1.heap.size,2,none⟩=some (.int .u64 0)/\W'.cell? ⟨w1.heap.size,3,none⟩=some (.string ⟨#[]⟩)/\W'.cell? ⟨w1.heap.size,4,none⟩=some (.string ⟨#[]⟩)/\W'.cell? ⟨w1.heap.size,5,none⟩=some (.slice none 0 0)):=af (fun W' y ho hy qs qn=>by
  have m2:w1.heap.size∉[b,n]:=by simp;omega
  obtain⟨e0,e1,e2,e3,e4,e5,e6,e7,e8,e9,e10,e11,e12,e13⟩:=bE hy;rw[qs]at e5 e8;rw[qn,hn]at e9;rw[hk]at e5;exact⟨e9,e5,e8,(ho.cell (block_lt_of_cell y0) m2).trans y0,(ho.cell (block_lt_of_cell y1) m2).trans y1,(ho.cell (block_lt_of_cell y2) m2).trans y2,(ho.cell (block_lt_of_cell y3) m2).trans y3,(ho.cell (block_lt_of_cell y4) m2).trans y4,(ho.cell (block_lt_of_cell y5) m2).trans y5⟩)
 clear hP1 aH hO hO2 hE1 hF1 hq h hF cP c0 c1 c2 c3 c4 c5 c6 c7 c8 c9 c10 c11 c12 c13;go_region_held3(fun W'=>W'.cell? ⟨b,9,none⟩=some (.pointer (some ⟨n,0,none⟩))/\W'.cell? ⟨b,5,none⟩=some (.int .i64 3)/\W'.cell? ⟨b,8,none⟩=some (.string x.s.d)/\W'.cell? ⟨w1.heap.size,0,none⟩=some (.int .u64 0)/\W'.cell? ⟨w1.heap.size,1,none⟩=some (.bool false)/\W'.cell? ⟨w1.heap.size,2,none⟩=some (.int .u64 0)/\W'.cell? ⟨w1.heap.size,3,none⟩=some (.string ⟨#[]⟩)/\W'.cell? ⟨w1.heap.size,4,none⟩=some (.string ⟨#[]⟩)/\W'.cell? ⟨w1.heap.size,5,none⟩=some (.slice none 0 0)) (first|with_reducible exact kA|with_reducible exact kB|go_keep) ((go_at_call 96;((with_reducible refine(cT.out _ (by first|exact hF2.out|exact hFd.out)).mono ?_);rintro e w3 ⟨rfl,MK,Z0⟩;have eu:ai [n] W w3:=(by first|exact MK|exact((ai.refl [n] W).drew).trans MK);have ji:=hE2.own eu (by simpa using hbn);have dw:ai [b,n] W w3:=eu.mono (by simp);have kA:=hS.out _ x dw ji rfl rfl;have XU:=frozen_of_row _ b 10 _ _ ji;have jN:aQ (w3.setCell ⟨b,10,none⟩ (.int .i64 5)) b {x with code:=5}:=(by have:=heap_setCell_same _ b 10 _ _ (.int .i64 5) ji;simpa[aQ]using this);have hO4:ai [b,n] W (w3.setCell ⟨b,10,none⟩ (.int .i64 5)):=dw.setCell (.inl (by simp)) _;have kB:=hS.out _ _ hO4 jN rfl rfl;have c10:=(bE ji).2.2.2.2.2.2.2.2.2.2.1)))
 all_goals
  have hb3:ai [b] w3 (w3.setCell ⟨b,10,none⟩ (.int .i64 5)):=(ai.refl [b] w3).setCell (.inl (by simp)) _;have UL:mg (w3.setCell ⟨b,10,none⟩ (.int .i64 5)) n r a g nm true:=⟨hb3.heap Z0.1 (by simpa using hbn.symm),hb3.heap Z0.2 (by simpa using hbr.symm)⟩;have aB:=hO3.trans hO4;go_wp2_with fail
  go_ret
  exact⟨rfl,aB,jN,UL⟩
end Go.Proofs.YtedcakchekaemaaGreatDoor
namespace Go.Proofs.YtedcakchekaemaaGreatDoor
open Go.RowKit Go.Sort Go.Lib Go.Shelf
variable [Kd]
theorem Jh(x y:kV):ltOf Qk x y=true↔dU x.key y.key:=by
 unfold ltOf;rw[decide_eq_true_iff];exact tN ⟨x.g,x.nm,⟨#[]⟩⟩ y.key
theorem BB(x y:kV):ltOf Qk x y=false↔ ¬dU x.key y.key:=by
 rw[<-Jh,Bool.not_eq_true]
theorem Hg:SWO (ltOf Qk) where
 irrefl x:=by rw[BB];exact yU _
 trans x y z h1 h2:=by rw[Jh]at*;exact kg h1 h2
 ntrans x y z h1 h2:=by
  rw[BB]at*;intro h;by_cases hxy:dU y.key x.key
  ·exact h2 (kg hxy h)
  ·have e:=oJ h1 hxy
   rw[e]at h;exact h2 h
theorem Hl{base:Nat}{w:World}{v:Value}{l:List kV}(h:Sl 38 ug 8 base w v l)(hl:l.length<4611686018427387904):
  Calls Tryz.prog 26 #[v,.func (.func 27) #[] #[]] w fun e w'=>
   e=.returned (.tuple #[])/\ ∃l',l'.Perm l/\l'.Pairwise (fun x y=> ¬dU y.key x.key)/\Sl 38 ug 8 base w' v l'/\ai v.ownBlock.toList w w':=by
 rcases h.form with⟨rfl,rfl⟩|⟨g,cap,rfl,hg,hR⟩
 ·refine(E9 none 0 _ w).mono ?_
  rintro e w' ⟨he,rfl⟩;exact⟨he,[],List.Perm.refl _,List.Pairwise.nil,h,ai.refl _ _⟩
 ·have eg: ∀args w,(callFunc 27 args).run Tryz.prog w=.ok (.enter 27 args) w:=enters_of Tryz.func27 (by kernel_rfl) rfl
  refine(Qn Tryz.sortNodes (by intro w;kernel_rfl) (by intro w;kernel_rfl) qz (fun x v hv=>Ve.one x v hv) Qk Hg 27 eg Qm hR hl).mono ?_;rintro e w' ⟨he,l',h1,h2,h3,h4⟩;refine⟨he,l',h1,h2.imp ?_,?_,by simpa[Value.ownBlock]using h4⟩
  ·intro x y hxy
   rwa[BB]at hxy
  ·rw[<-h1.length_eq]
   exact Sl.of_row h3 qz hg
def ndE(x:gy):Rk×Value:=(x.key,aK x.blk)
def gy.say(x:gy):Rk×EN:=(x.key,x.s)
structure MW (w:World) (K:aU) (wr:World) (r:Nat) (sv:Value) (dn mid R:List gy) (T:List kV):Prop where
 it:iZ bT wr r K.m (K.NS.map ndE) (R.map ndE)
 own:ai [] w wr
 sl:Sl 38 ug 8 w.heap.size wr sv T
 perm:K.NS.Perm (dn++mid++R)
 say:T.map kV.say=dn.map gy.say
 nr:w.heap.size<=r/\r<wr.heap.size/\K.m<w.heap.size
 ns: ∀b,sv.ownBlock=some b->b≠r
 sh: ∀v∈T,jM w.heap.size wr v/\ ∀b∈v.feet,b≠r/\sv.ownBlock≠some b
theorem MW.len{w wr:World}{K:aU}{r:Nat}{sv:Value}{dn mid R:List gy}{T:List kV}(J:MW w K wr r sv dn mid R T):T.length=dn.length:=by
 have:=congrArg List.length J.say;simpa using this
theorem MW.next{w wr:World}{K:aU}{r:Nat}{sv:Value}{dn R:List gy}{T:List kV}(J:MW w K wr r sv dn [] R T):
  (R=[]/\ ∀ty,(Instr.next (.pointer (some ⟨r,0,none⟩)) false ty).run Tryz.prog wr=.ok (.tuple #[.bool false]) wr)\/
  ∃R1 x R2 w2,R=R1++x::R2/\(∀ty,(Instr.next (.pointer (some ⟨r,0,none⟩)) false ty).run Tryz.prog wr=.ok (.tuple #[.bool true,bT x.key,aK x.blk]) w2)/\(Instr.entry (.pointer (some ⟨r,0,none⟩))).run Tryz.prog w2=.ok (.tuple #[bT x.key,aK x.blk]) w2/\MW w K w2 r sv dn [x] (R1++R2) T:=by
 rcases J.it.next (P:=Tryz.prog) 0 with⟨h1,h2⟩|⟨r1,r2,p,w2,h1,h2,h3,h4,h5,h6⟩
 ·exact .inl ⟨List.map_eq_nil_iff.1 h1,fun ty=>h2⟩
 ·right
  obtain⟨R1,R',hR,e1,e2⟩:=List.map_eq_append_iff.1 h1;obtain⟨x,R2,hR',e3,e4⟩:=List.map_eq_cons_iff.1 e2;subst hR';subst hR;subst e3;subst e1;subst e4;refine⟨R1,x,R2,w2,rfl,fun ty=>h2,h6,?_,?_,?_,?_,J.say,?_,J.ns,?_⟩
  ·rw[List.map_append];exact h3
  ·exact J.own.trans' h4 (fun z hz=>by simp at hz;subst hz;exact .inr J.nr.1)
  ·exact J.sl.own h4 (fun b hb hx=>by simp at hx;exact J.ns b hb hx)
  ·have:=J.perm
   refine this.trans ?_;simp only[List.append_nil,List.append_assoc];exact List.Perm.append_left dn (by simp)
  ·exact⟨J.nr.1,by rw[h5];exact J.nr.2.1,J.nr.2.2⟩
  ·intro v hv
   obtain⟨k1,k2⟩:=J.sh v hv;exact⟨k1.own' h4 (fun b hb hx=>by simp at hx;exact(k2 b hb).1 hx),k2⟩
theorem MW.push{w w2 w3 w4 w5:World}{K:aU}{r:Nat}{sv v':Value}{dn R:List gy}{x:gy}{T:List kV}{v:kV}(J:MW w K w2 r sv dn [x] R T)(ho1:ai [] w2 w3)(hs:v.say=x.say)(hv:jM w2.heap.size w3 v)(ho2:ai [] w3 w4)
  (hS:Sl 38 ug 8 w.heap.size w5 v' (T++[v]))(aB:ai [] w w5)(hg2: ∀g,v'.ownBlock=some g->sv.ownBlock=some g\/w4.heap.size<=g)(hg3:ai sv.ownBlock.toList w4 w5):MW w K w5 r v' (dn++[x]) [] R (T++[v]):=by
 have hs1:=ho1.size;have hs2:=ho2.size;have hs3:=hg3.size;have h24:=ho1.trans ho2;obtain⟨n1,n2,n3⟩:=J.nr;have hw2:=J.own.size;have hb:=fun b (hb:sv.ownBlock=some b)=>J.sl.block hb
 have hft:=hv.feet;refine⟨((J.it.own h24 (by simp) (by simp)).own hg3 (fun hx=>J.ns r (Option.mem_toList.1 hx) rfl) (fun hx=>by have:=(hb _ (Option.mem_toList.1 hx)).1;omega)),aB,hS,by simpa using J.perm,by simp[J.say,hs],⟨n1,by omega,n3⟩,fun b hb'=>?_,fun u hu=>?_⟩
 ·rcases hg2 b hb' with h1|h1
  ·exact J.ns b h1
  ·omega
 ·rcases List.mem_append.1 hu with hu|hu
  ·obtain⟨k1,k2⟩:=J.sh u hu
   refine⟨(k1.nil' h24).own' hg3 (fun b hb hx=>(k2 b hb).2 (Option.mem_toList.1 hx)),fun b hb=>⟨(k2 b hb).1,fun hx=>?_⟩⟩;have:=(k1.feet b hb).2;rcases hg2 b hx with h1|h1
   ·exact(k2 b hb).2 h1
   ·omega
  ·rw[List.mem_singleton]at hu
   subst hu;refine⟨((hv.mono hw2).nil' ho2).own' hg3 (fun b hb' hx=>?_),fun b hb'=>⟨?_,fun hx=>?_⟩⟩
   ·have h1:=(hb b (Option.mem_toList.1 hx)).2
    have h2:=(hft b hb').1;omega
   ·have h2:=(hft b hb').1
    omega
   ·have h2:=hft b hb'
    rcases hg2 b hx with h1|h1
    ·have h1:=(hb b h1).2
     omega
    ·omega
def vB(S:SP)(w:World)(e:Ending)(w':World):Prop:=
 ∃v T,e=.returned v/\(T.map kV.say).Perm S.nodes/\T.Pairwise (fun x y=>dU x.key y.key)/\Sl 38 ug 8 w.heap.size w' v T/\(∀x∈T,jM w.heap.size w' x)/\ai [] w w'
theorem MW.done{w wr w':World}{K:aU}{r:Nat}{sv:Value}{dn:List gy}{T T':List kV}(J:MW w K wr r sv dn [] [] T)(hnd:(K.NS.map gy.key).Nodup)(hp:T'.Perm T)(hs:T'.Pairwise (fun x y=> ¬dU y.key x.key))(hS:Sl 38 ug 8 w.heap.size w' sv T')(ho:ai sv.ownBlock.toList wr w'):vB K.sp w (.returned sv) w':=by
 have hpm:=J.perm;simp only[List.append_nil]at hpm;have aai:(T'.map kV.say).Perm K.sp.nodes:=by
  refine(hp.map _).trans ?_;rw[J.say];exact(hpm.symm.map gy.say)
 have hnd':(T'.map kV.key).Nodup:=by
  have h1:(T'.map kV.key)=(T'.map kV.say).map (·.1):=by rw[List.map_map];rfl
  rw[h1];refine((aai.map (·.1)).nodup_iff).2 ?_;unfold aU.sp;simp only[List.map_map];exact hnd
 refine⟨sv,T',rfl,aai,?_,hS,fun x hx=>?_,J.own.trans' ho (fun z hz=>.inr (J.sl.block (Option.mem_toList.1 hz)).1)⟩
 ·have h2:T'.Pairwise (fun x y=>x.key≠y.key):=List.pairwise_map.1 hnd'
  refine(hs.and h2).imp ?_;rintro a b ⟨h3,h4⟩;by_cases h5:dU a.key b.key
  ·exact h5
  ·exact absurd (oJ h5 h3) h4
 ·obtain⟨k1,k2⟩:=J.sh x (hp.mem_iff.1 hx)
  exact k1.own' ho (fun b hb hx=>(k2 b hb).2 (Option.mem_toList.1 hx))
theorem LZ(K:aU)(w:World)(H:bq w K):Calls Tryz.prog 10 #[aK K.p] w (vB K.sp w):=by
 have h0:w.cell? ⟨K.p,0,none⟩=some (.map (some K.m)):=cell_of_row _ _ 0 _ _ _ H.sp;have cN:=af (mZ K.p K.m w h0);obtain⟨w1,hr,hI,hO,hs1⟩:=H.nm.range (P:=Tryz.prog) gG;have J0:MW w K w1 w.heap.size (.slice none 0 0) [] [] K.NS []:=⟨hI,hO,Sl.nil _ _ _,by simp,rfl,⟨Nat.le_refl _,by omega,H.nm.lt⟩,fun b hb=>(by cases hb),by simp⟩;have cV:=fun W (ho:ai [] w W) x (hx:x∈K.NS)=>Hf x W ((H.eds x hx).own ho (by simp))
 have hnd:=H.nd;have UC:=H.few;obtain⟨r,hrr⟩: ∃r,w.heap.size=r:=⟨_,rfl⟩;have hr':=hr;rw[hrr]at J0 hr;change Hid _ at J0 cV hrr;replace hnd:=af hnd;clear H hI hO hs1 hr';go_enter Tryz.func10,Tryz.ntmps10
 go_wp2_with(go_at_call 22;((with_reducible refine cN.out.mono ?_);rintro e w2 ⟨rfl,rfl⟩))
 go_loopg[3] K.NS.length (fun g s3 wr=> ∃(dn R:List gy) (T:List kV),g=R.length/\Aside (MW w K wr r s3 dn [] R T))
 case atStart=>exact⟨[],K.NS,[],rfl,J0.out⟩
 case round=>
  obtain⟨dn,R,T,rfl,J⟩:=hrel;have hl1:=J.len;have hl2:=J.perm.length_eq;simp only[List.append_nil,List.length_append]at hl2;rcases J.next with⟨rfl,hnx⟩|⟨R1,x,R2,w2,rfl,hnx,hen,J2⟩
  ·have cS:=af (Hl J.sl (by omega))
   replace J:=af J;obtain⟨sa,sc,hsv⟩:=J.out.sl.sl;subst hsv;clear hl1 hl2;go_wp2_with(go_at_call 26;((with_reducible refine cS.out.mono ?_);rintro e w3 ⟨rfl,T',q1,q2,q3,q4⟩;have hF:=af (J.out.done hnd.out q1 q2 q3 q4);clear q1 q2 q3 q4))
   go_ret
   exact hF.out
  ·have hxm:x∈K.NS:=J2.perm.mem_iff.2 (by simp)
   have cX:=af (cV.out w2 J2.own x hxm);obtain⟨sa,sc,hsv⟩:=J2.sl.sl;have hsz:T.length<=8:=by omega
   subst hsv;replace J2:=af J2;simp only[bT]at hnx hen;clear J hl1 hl2;go_wp2_with(first
    |(go_at_call 25;(with_reducible refine cX.out.mono ?_);rintro e w3 ⟨v,rfl,hv,hO3⟩;have hRb:=af (aA.new (enc:=ug) (T:=38) w3 v 1);have hO4:=af ((ai.refl [] w3).alloc (.cells (ug v).toArray 38));have nZ:=af ((J2.out.sl.nil' hO3).nil' hO4.out);have aB:=af ((J2.out.own.trans hO3).trans hO4.out);replace hO3:=af hO3)
    |(at_builtin;refine aO rfl (.tmp 17) (.tmp 20) rfl Ve aB.out rfl nZ.out rfl hRb.out (by simp only[List.length_singleton];omega) (by unfold maxLen;simp only[List.length_singleton];omega) ?_;intro va w5 mU zk _ hg2 hg3;have J3:=J2.out.push hO3.out hv.1 hv.2 hO4.out mU zk hg2 hg3;obtain⟨T2,lC⟩: ∃T2,T++[v]=T2:=⟨_,rfl⟩;rw[lC]at J3 mU;obtain⟨aa,ca,rfl⟩:=mU.sl;replace J3:=af J3;clear mU zk hg2 hg3 lC))
   go_roundg(R1++R2).length
   case measure=>simp
   case rel=>exact⟨_,_,_,rfl,J3.out⟩
end Go.Proofs.YtedcakchekaemaaGreatDoor
namespace Go.Proofs.YtedcakchekaemaaGreatDoor
open Go.RowKit
def gB:ByteArray:=⟨#[103]⟩
def nB:ByteArray:=⟨#[110]⟩
def gJ:ByteArray:=⟨#[115,112,66,118,49,46,48,47,103,47,78,68,65,84,65,47,110]⟩
theorem Hz:jP gJ=⟨3,gB,nB,⟨#[]⟩⟩:=by kernel_rfl
theorem YG:(gB.toList==[])=false:=by rw[Lib.toList_data];rfl
theorem YH:(nB.toList==[])=false:=by rw[Lib.toList_data];rfl
structure TS (w0 w:World) (p m h bb r b:Nat) (l:List ((ByteArray×ByteArray)×Value)) (asked:Int) (x:sI):Prop where
 en:aQ w b x
 sp:w.heap[p]?=some (.cells #[.map (some m),aK h,aK bb,aK r,.int .i64 asked] 73 (0,0))
 nm:cu bT w m l
 ra:w.heap[r]?=some (.cells #[.int .i64 10,.slice none 0 0,.bool true] 143 (0,0))
 ne:b≠p/\b≠m/\b≠r/\p≠m/\p≠r/\m≠r
 own:ai [p,m,r] w0 w
 bf:w0.heap.size<=b
section
variable {w0 w w' : World} {p m h bb r b : Nat} {l : List ((ByteArray × ByteArray) × Value)} {asked : Int} {x y : sI}
theorem TS.nil'(H:TS w0 w p m h bb r b l asked x)(ho:ai [] w w'):TS w0 w' p m h bb r b l asked x:=
 ⟨H.en.own ho (by simp),ho.heap H.sp (by simp),H.nm.own ho (by simp),ho.heap H.ra (by simp),H.ne,H.own.trans ho.nil,H.bf⟩
theorem TS.set(H:TS w0 w p m h bb r b l asked x){S:List Nat}(ho:ai S w w')(hS: ∀z∈S,z=b\/w.heap.size<=z\/(w0.heap.size<=z/\z≠p/\z≠m/\z≠r))(he:aQ w' b y):TS w0 w' p m h bb r b l asked y:=by
 obtain⟨h1,h2,h3,h4,h5,h6⟩:=H.ne;have hp:=aj H.sp;have hm:=H.nm.lt;have hr:=aj H.ra;have hno: ∀z,z<w.heap.size->z≠b->(z=p\/z=m\/z=r)->z∉S:=fun z hz hzb h7 hx=>by
  rcases hS z hx with h8|h8|h8
  ·exact hzb h8
  ·omega
  ·rcases h7 with h7|h7|h7<;>omega
 refine⟨he,ho.heap H.sp (hno _ hp (Ne.symm h1) (.inl rfl)),H.nm.own ho (hno _ hm (Ne.symm h2) (.inr (.inl rfl))),ho.heap H.ra (hno _ hr (Ne.symm h3) (.inr (.inr rfl))),H.ne,H.own.trans' ho (fun z hz=>.inr ?_),H.bf⟩;have:=H.own.size;have:=H.bf;rcases hS z hz with h8|h8|h8<;>omega
theorem Ti(H:TS w0 w p m h bb r b l asked x)(hk:x.s.k=3):Calls Tryz.prog 53 #[aK p,aK b] w fun e w'=>e=.returned (.bool true)/\w=w':=by
 have:=Ck p b x w H.en;rw[hk]at this;exact this
theorem Qy(H:TS w0 w p m h bb r b l asked x)(hk:x.s.k=3):Calls Tryz.prog 54 #[aK p,aK b] w fun e w'=>e=.returned (.bool true)/\TS w0 w' p m h bb r b l asked {x with vn:=x.s.n}/\ai [b] w w':=
 (wY p b x w H.en (by rw[hk];decide)).mono fun e w' ⟨h1,h2,h3⟩=>⟨h1,H.set h2 (by simp) h3,h2⟩
theorem Tj(H:TS w0 w p m h bb r b [] asked x)(hg:(x.s.g.toList==[])=false)(hn:(x.s.n.toList==[])=false):Calls Tryz.prog 55 #[aK p,aK b] w fun e w'=>e=.returned (.bool true)/\ ∃n rr a,w.heap.size<=n/\w.heap.size<=rr/\n≠rr/\ai [b,m] w w'/\
  mg w' n rr a x.s.g x.s.n false/\TS w0 w' p m h bb r b [((x.s.g,x.s.n),.pointer (some ⟨n,0,none⟩))] asked {x with vg:=x.s.g,node:=.pointer (some ⟨n,0,none⟩)}:=by
 obtain⟨h1,h2,h3,h4,h5,h6⟩:=H.ne;have hp:=aj H.sp;have hb:=aj H.en;have hm:=H.nm.lt;have hr:=aj H.ra;have hz:=H.own.size;refine(Pp p b m h bb r asked x w H.en H.sp H.nm hg hn h1 h2 h4).mono ?_;rintro e w' ⟨rfl,n,rr,a,k1,k2,k3,k4,k5,k6,k7⟩;refine⟨rfl,n,rr,a,k1,k2,k3,k7,k5,k4,k7.heap H.sp (by simp;omega),k6,k7.heap H.ra (by simp;omega),H.ne,H.own.trans' k7 (fun z hz=>?_),H.bf⟩;have:=H.bf;simp at hz;rcases hz with rfl|rfl
 ·exact .inr H.bf
 ·exact .inl (by simp)
theorem Tk{n rr a:Nat}(H:TS w0 w p m h bb r b l asked x)(ht:x.text=⟨#[]⟩)(hk:x.s.k=3)(hn:x.node=.pointer (some ⟨n,0,none⟩)){g nm:ByteArray}(hF:mg w n rr a g nm false)(hnr:n≠rr)(hbn:b<n)(hbr:b<rr)(hpn:p<n)(hmn:m<n)(hrn:r<n)(hn0:w0.heap.size<=n):
  Calls Tryz.prog 56 #[aK p,aK b] w fun e w'=>e=.returned (.bool true)/\mg w' n rr a g nm true/\TS w0 w' p m h bb r b l asked {x with code:=5}/\ai [b,n] w w':=
 (Hy p b n rr a g nm false x w H.en ht hk hn hF hnr (by omega) (by omega)).mono fun e w' ⟨h1,h2,h3,h4⟩=>⟨h1,h4,H.set h2 (by simp;omega) h3,h2⟩
theorem Em(H:TS w0 w p m h bb r b l asked x)(h1:x.code≠1):Calls Tryz.prog 57 #[aK p,aK b] w fun e w'=>e=.returned (.bool true)/\w=w':=sW p b x w H.en h1
theorem Wm{n rr a:Nat}{g nm:ByteArray}{pe:Bool}(H:TS w0 w p m h bb r b l 0 x)(hF:mg w n rr a g nm pe)(hbn:b<n)(hbr:b<rr)(hpn:p<n)(hpr:p<rr)(hrn:r<n)(hrr:r<rr)(hc:x.code=5)(ha:x.at'=5)(hsg:x.s.g.size<=1048576)(hsn:x.s.n.size<=1048576):
  Calls Tryz.prog 58 #[aK p,aK b] w fun e w'=>e=.returned (.bool false)/\mg w' n rr a g nm pe/\aQ w' b {x with ask:=true}/\w'.heap[p]?=some (.cells #[.map (some m),aK h,aK bb,aK r,.int .i64 1] 73 (0,0))/\cu bT w' m l/\ai [p,m,r] w0 w'/\ai [b,p,r] w w':=by
 obtain⟨h1,h2,h3,h4,h5,h6⟩:=H.ne;have hR:ni w r 10 [r] []:=⟨by simp,by simp,⟨by omega,by omega⟩,.slice none 0 0,[],⟨H.ra,⟨⟨rfl,.inl ⟨rfl,rfl⟩⟩,by simp,by simp⟩,by simp[Value.ownBlock],by simp⟩,List.Perm.refl _,by simp,by simp[Value.ownBlock],by simp⟩;refine(Rx p b r m h bb 10 0 [r] [] x w H.en hR H.sp (by rw[hc];decide) (by decide) (by decide) (Ne.symm h1) (by simpa using h5) (by simpa using h3) hsg hsn (by rw[ha];rfl)).mono ?_;rintro e w' ⟨rfl,k1,k2,k3⟩;refine⟨rfl,⟨k1.heap hF.1 (by simp;omega),k1.heap hF.2 (by simp;omega)⟩,k2,k3,H.nm.own k1 (by simp;omega),H.own.trans' k1 (fun z hz=>?_),k1⟩;simp at hz;rcases hz with rfl|rfl|rfl
 ·exact .inr H.bf
 ·exact .inl (by simp)
 ·exact .inl (by simp)
end
theorem HV{p m h hm bb r:Nat}(w:World)(H:SN w p m h hm bb r)(hT:jG w)(hW:dz w)(hC:pG w):
  Calls Tryz.prog 9 #[aK p,.int .i64 5,.agg #[.string gJ,.string ⟨#[]⟩,.int .i64 0,.bool false]] w fun e w'=>e=.returned (.agg #[.int .i64 5,.string gB,.string nB,.bool true])/\
   ∃n rr a,mg w' n rr a gB nB true/\w'.heap[p]?=some (.cells #[.map (some m),aK h,aK bb,aK r,.int .i64 1] 73 (0,0))/\cu bT w' m [((gB,nB),.pointer (some ⟨n,0,none⟩))]/\ai [p,m,r] w w':=by
 have hpm:p≠m:=fun e=>by
  obtain⟨es,clock,hb,_⟩:=H.nm;rw[<-e,H.sp]at hb;cases hb
 have hpr:p≠r:=fun e=>by
  have:=H.ra;rw[<-e,H.sp]at this;simp at this
 have hmr:m≠r:=fun e=>by
  obtain⟨es,clock,hb,_⟩:=H.nm;rw[e,H.ra]at hb;cases hb
 have hpl:=aj H.sp;have hml:=H.nm.lt;have hrl:=aj H.ra;have cO:=af fun W (h1:jG W) (h2:dz W) (h3:pG W)=>wW gJ W (by decide) h2 h1 h3
 have hA:=(((ai.refl [] w).alloc (.cells #[.string gJ,.string ⟨#[]⟩,.int .i64 0,.bool false] 29)).alloc (.cells #[.int .i64 0,.string ⟨#[]⟩,.string ⟨#[]⟩,.bool false] 31));have cN:=mZ p m _ (H.own hA).c0.1;replace cN:=af cN;go_enter Tryz.func9,Tryz.ntmps9
 go_wp2_with(go_at_call 22;((with_reducible refine cN.out.mono ?_);rintro e w2 ⟨rfl,rfl⟩))
 clear cN;have hq0:((w.alloc (.cells #[.string gJ,.string ⟨#[]⟩,.int .i64 0,.bool false] 29)).alloc (.cells #[.int .i64 0,.string ⟨#[]⟩,.string ⟨#[]⟩,.bool false] 31)).heap[w.heap.size]?=some (.cells #[.string gJ,.string ⟨#[]⟩,.int .i64 0,.bool false] 29 (0,0)):=by
  rw[Below.heap_alloc _ _ _ (by simp)];exact heap_alloc_new _ _
 have hq1:((w.alloc (.cells #[.string gJ,.string ⟨#[]⟩,.int .i64 0,.bool false] 29)).alloc (.cells #[.int .i64 0,.string ⟨#[]⟩,.string ⟨#[]⟩,.bool false] 31)).heap[w.heap.size+1]?=some (.cells #[.int .i64 0,.string ⟨#[]⟩,.string ⟨#[]⟩,.bool false] 31 (0,0)):=heap_alloc2_new _ _ _;generalize((w.alloc (.cells #[.string gJ,.string ⟨#[]⟩,.int .i64 0,.bool false] 29)).alloc (.cells #[.int .i64 0,.string ⟨#[]⟩,.string ⟨#[]⟩,.bool false] 31))=W0 at*;obtain⟨q0,Q5⟩: ∃q,q=w.heap.size:=⟨_,rfl⟩;obtain⟨q1,Q6⟩: ∃q,q=w.heap.size+1:=⟨_,rfl⟩;rw[<-Q6]at hq1⊢;rw[<-Q5]at hq0⊢;have afo:=aj hq0;have UM:=aj hq1;have afp:q0≠q1:=by omega
 have afq:w.heap.size<=q0:=by omega
 have Ik:w.heap.size<=q1:=by omega
 clear Q5 Q6;obtain⟨s0,s1,s2,s3⟩:=fC hq0;have XB:=af (cO.out W0.drew (hT.own (S:=[]) hA.drew (by simp)) (hW.own hA.drew) (hC.own hA.drew));rw[show jP gJ=_ from Hz]at XB;unfold sU at XB;have QG:Hid (∀W,ai [] W0.drew W->W.cell? ⟨q0,0,none⟩=some (.string gJ)/\W.cell? ⟨q0,1,none⟩=some (.string ⟨#[]⟩)/\W.cell? ⟨q0,2,none⟩=some (.int .i64 0)/\W.cell? ⟨q0,3,none⟩=some (.bool false)):=af fun W ho=>
  fC ((ai.refl [] W0).drew.trans ho |>.heap hq0 (by simp))
 have kW:=QG.out W0.drew (ai.refl _ _);go_region_held3(fun W=>W.cell? ⟨q0,0,none⟩=some (.string gJ)/\W.cell? ⟨q0,1,none⟩=some (.string ⟨#[]⟩)/\W.cell? ⟨q0,2,none⟩=some (.int .i64 0)/\W.cell? ⟨q0,3,none⟩=some (.bool false))
  (first|with_reducible exact kA|with_reducible exact kW|go_keep)
  ((first|(go_at_call 23;(with_reducible refine XB.out.mono ?_);rintro e w3 ⟨rfl,hO3⟩;have kA:=QG.out _ hO3)))
 all_goals
  have Il:ai [] W0 w3:=(ai.refl [] W0).drew.trans hO3;have Vs:TS w (w3.alloc (.cells #[.int .i64 5,.string gJ,.string ⟨#[]⟩,.int .i64 0,.bool false,.int .i64 3,.string gB,.string nB,.string ⟨#[]⟩,.pointer none,.int .i64 0,.string ⟨#[]⟩,.string ⟨#[]⟩,.bool false] 80)) p m h bb r w3.heap.size [] 0 ⟨5,gJ,⟨#[]⟩,0,false,⟨3,gB,nB,⟨#[]⟩⟩,.pointer none,0,⟨#[]⟩,⟨#[]⟩,false⟩:=by
   have hw3:=hA.trans Il;have hO4:=hw3.alloc (.cells #[.int .i64 5,.string gJ,.string ⟨#[]⟩,.int .i64 0,.bool false,.int .i64 3,.string gB,.string nB,.string ⟨#[]⟩,.pointer none,.int .i64 0,.string ⟨#[]⟩,.string ⟨#[]⟩,.bool false] 80);have hz:=hw3.size;exact⟨heap_alloc_new _ _,hO4.heap H.sp (by simp),H.nm.own hO4 (by simp),hO4.heap H.ra (by simp),⟨by omega,by omega,by omega,hpm,hpr,hmr⟩,hO4.nil,hz⟩
  have hV3:=(((ai.refl [] W0).drew.trans hO3).alloc (.cells #[.int .i64 5,.string gJ,.string ⟨#[]⟩,.int .i64 0,.bool false,.int .i64 3,.string gB,.string nB,.string ⟨#[]⟩,.pointer none,.int .i64 0,.string ⟨#[]⟩,.string ⟨#[]⟩,.bool false] 80)).heap hq1 (by simp);clear kA kW QG XB hq0 hq1 s0 s1 s2 s3;have Z9:q1<w3.heap.size:=Nat.lt_of_lt_of_le UM Il.size;generalize w3.alloc (.cells #[.int .i64 5,.string gJ,.string ⟨#[]⟩,.int .i64 0,.bool false,.int .i64 3,.string gB,.string nB,.string ⟨#[]⟩,.pointer none,.int .i64 0,.string ⟨#[]⟩,.string ⟨#[]⟩,.bool false] 80)=W4 at*;generalize w3.heap.size=b at*;change Hid _ at hV3;replace Vs:=af Vs;go_wp2_with go_in
  have hSt:(W4.alloc (.cells #[.func (.func 53) #[aK p] #[],.func (.func 54) #[aK p] #[],.func (.func 55) #[aK p] #[],.func (.func 56) #[aK p] #[],.func (.func 57) #[aK p] #[],.func (.func 58) #[aK p] #[]] 85)).heap[W4.heap.size]?=some (.cells #[.func (.func 53) #[aK p] #[],.func (.func 54) #[aK p] #[],.func (.func 55) #[aK p] #[],.func (.func 56) #[aK p] #[],.func (.func 57) #[aK p] #[],.func (.func 58) #[aK p] #[]] 85 (0,0)):=heap_alloc_new _ _;have MN:=af (Vs.out.nil' ((ai.refl [] W4).alloc (.cells #[.func (.func 53) #[aK p] #[],.func (.func 54) #[aK p] #[],.func (.func 55) #[aK p] #[],.func (.func 56) #[aK p] #[],.func (.func 57) #[aK p] #[],.func (.func 58) #[aK p] #[]] 85)));have Uy:=af (((ai.refl [] W4).alloc (.cells #[.func (.func 53) #[aK p] #[],.func (.func 54) #[aK p] #[],.func (.func 55) #[aK p] #[],.func (.func 56) #[aK p] #[],.func (.func 57) #[aK p] #[],.func (.func 58) #[aK p] #[]] 85)).heap hV3.out (by simp));have aac:b<W4.heap.size:=aj Vs.out.en;have aad:q1<W4.heap.size:=aj hV3.out;have afr:p<W4.heap.size:=aj Vs.out.sp;have afs:m<W4.heap.size:=Vs.out.nm.lt;have aft:r<W4.heap.size:=aj Vs.out.ra;clear Vs hV3;generalize(W4.alloc (.cells #[.func (.func 53) #[aK p] #[],.func (.func 54) #[aK p] #[],.func (.func 55) #[aK p] #[],.func (.func 56) #[aK p] #[],.func (.func 57) #[aK p] #[],.func (.func 58) #[aK p] #[]] 85))=W5 at*;generalize W4.heap.size=st at*;refine wp_loop_rounds 6 ?_;rw[rounds_succ];have c0:W5.cell? ⟨st,0,none⟩=some (.func (.func 53) #[aK p] #[]):=cell_of_row _ st 0 _ _ _ hSt;go_wp2_with fail
  refine(Ti (MN.out.nil' ((ai.refl [] W5).alloc _)) rfl).mono ?_;rintro e w6 ⟨rfl,rfl⟩;have bI:=(ai.refl [] W5).alloc (.cells #[.func (.func 53) #[aK p] #[]] 85);have hT6:=af (MN.out.nil' bI);have Xa:=bI.heap hSt (by simp);have WZ:=af (bI.heap Uy.out (by simp));clear c0 hSt MN Uy bI;generalize W5.alloc (.cells #[.func (.func 53) #[aK p] #[]] 85)=W6 at*;go_wp2_with fail
  rw[rounds_succ];have c1:W6.cell? ⟨st,1,none⟩=some (.func (.func 54) #[aK p] #[]):=cell_of_row _ st 1 _ _ _ Xa;go_wp2_with fail
  refine(Qy (hT6.out.nil' ((ai.refl [] W6).alloc _)) rfl).mono ?_;rintro e W7 ⟨rfl,hT7,gU⟩;have bI:=((ai.refl [] W6).alloc (.cells #[.func (.func 54) #[aK p] #[]] 85)).nil.trans gU;have Na:=bI.heap Xa (by simp;omega);have X0:=af (bI.heap WZ.out (by simp;omega));replace hT7:=af hT7;clear c1 Xa hT6 WZ bI gU;go_wp2_with fail
  rw[rounds_succ];have c2:W7.cell? ⟨st,2,none⟩=some (.func (.func 55) #[aK p] #[]):=cell_of_row _ st 2 _ _ _ Na;go_wp2_with fail
  refine(Tj (hT7.out.nil' ((ai.refl [] W7).alloc _)) YG YH).mono ?_;rintro e W8 ⟨rfl,n,rr,a,hn8,hr8,hnr,iV,Ur,Ya⟩;have gU:=((ai.refl [] W7).alloc (.cells #[.func (.func 55) #[aK p] #[]] 85)).nil.trans iV;have MG:=gU.heap Na (by simp;omega);have hV8:=af (gU.heap X0.out (by simp;omega));have acK:=aj Na;have afu:st<n/\st<rr:=by simp at hn8 hr8;omega
  replace Ya:=af Ya;replace Ur:=af Ur;clear c2 Na hT7 X0 gU iV hn8 hr8 acK;go_wp2_with fail
  rw[rounds_succ];have c3:W8.cell? ⟨st,3,none⟩=some (.func (.func 56) #[aK p] #[]):=cell_of_row _ st 3 _ _ _ MG;have hw8:=Ya.out.own.size;have acL:w.heap.size<=n:=by have:=Ya.out.bf;omega
  go_wp2_with fail
  refine(Tk (Ya.out.nil' ((ai.refl [] W8).alloc _)) rfl rfl rfl (Ur.out.own ((ai.refl [] W8).alloc _)) hnr (by omega) (by omega) (by omega) (by omega) (by omega) acL).mono ?_;rintro e W9 ⟨rfl,hF9,hT9,o7⟩;have iV:=((ai.refl [] W8).alloc (.cells #[.func (.func 56) #[aK p] #[]] 85)).nil.trans o7;have wI:=iV.heap MG (by simp;omega);have hV9:=af (iV.heap hV8.out (by simp;omega));replace hT9:=af hT9;replace hF9:=af hF9;clear c3 MG Ya hV8 iV o7 Ur hw8;go_wp2_with fail
  rw[rounds_succ];have c4:W9.cell? ⟨st,4,none⟩=some (.func (.func 57) #[aK p] #[]):=cell_of_row _ st 4 _ _ _ wI;go_wp2_with fail
  refine(Em (hT9.out.nil' ((ai.refl [] W9).alloc _)) (show(5:Int)≠1 by decide)).mono ?_;rintro e Vn ⟨rfl,rfl⟩;have oh:=(ai.refl [] W9).alloc (.cells #[.func (.func 57) #[aK p] #[]] 85);have aam:=af (hT9.out.nil' oh);have BK:=oh.heap wI (by simp);have aan:=af (oh.heap hV9.out (by simp));have aao:=af (hF9.out.own oh);clear c4 wI hT9 hV9 oh hF9;generalize W9.alloc (.cells #[.func (.func 57) #[aK p] #[]] 85)=Vq at*;go_wp2_with fail
  rw[rounds_succ];have c5:Vq.cell? ⟨st,5,none⟩=some (.func (.func 58) #[aK p] #[]):=cell_of_row _ st 5 _ _ _ BK;go_wp2_with fail
  refine(Wm (aam.out.nil' ((ai.refl [] Vq).alloc _)) (aao.out.own ((ai.refl [] Vq).alloc _)) (by omega) (by omega) (by omega) (by omega) (by omega) (by omega) rfl rfl (show gB.size<=1048576 by decide) (show nB.size<=1048576 by decide)).mono ?_;rintro e W11 ⟨rfl,aap,UQ,acM,acN,EF,MH⟩;have oh:=((ai.refl [] Vq).alloc (.cells #[.func (.func 58) #[aK p] #[]] 85)).nil.trans MH;have XG:=oh.heap aan.out (by simp;omega);obtain⟨e0,e1,e2,e3,e4,e5,e6,e7,e8,e9,e10,e11,e12,e13⟩:=bE UQ;obtain⟨v0,v1,v2,v3⟩:=fC XG;obtain⟨z0,z1,z2,z3,_⟩:=UX XG;have hset:=Ar XG (.int .i64 5) (.string gB) (.string nB) (.bool true);have iW:ai [q1] W11 ((((W11.setCell ⟨q1,0,none⟩ (.int .i64 5)).setCell ⟨q1,1,none⟩ (.string gB)).setCell ⟨q1,2,none⟩ (.string nB)).setCell ⟨q1,3,none⟩ (.bool true)):=
   ((((ai.refl [q1] W11).setCell (.inl (by simp)) _).setCell (.inl (by simp)) _).setCell (.inl (by simp)) _).setCell (.inl (by simp)) _
  clear e0 e1 e2 e3 e4 e5 e6 e7 e8 e9 c5 BK aam aan aao oh MH;go_wp2_with fail
  generalize((((W11.setCell ⟨q1,0,none⟩ (.int .i64 5)).setCell ⟨q1,1,none⟩ (.string gB)).setCell ⟨q1,2,none⟩ (.string nB)).setCell ⟨q1,3,none⟩ (.bool true))=W12 at*;obtain⟨f0,f1,f2,f3⟩:=fC hset;refine bodyPost_ret (v:=.agg #[.int .i64 5,.string gB,.string nB,.bool true]) (by simp[results,Tryz.results9,go_sem,f0,f1,f2,f3];try rfl) rfl
   ⟨rfl,n,rr,a,⟨iW.heap aap.1 (by simp;omega),iW.heap aap.2 (by simp;omega)⟩,iW.heap acM (by simp;omega),acN.own iW (by simp;omega),EF.trans' iW (fun z hz=>.inr (by simp at hz;omega))⟩
end Go.Proofs.YtedcakchekaemaaGreatDoor
