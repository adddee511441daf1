import Derived.Test.YtedcakchekaemaaGreatDoorMn34
set_option maxRecDepth 100000
set_option maxHeartbeats 16000000
set_option linter.all false
namespace Go.Proofs.YtedcakchekaemaaGreatDoor
open Go.RowKit
variable [Kd]
theorem Lm(g nm:ByteArray)(w:World)(h:g.toList.isEmpty=true\/nm.toList.isEmpty=true):
  Calls Tryz.prog 93 #[.string g,.string nm] w fun e w'=>e=.returned (.tuple #[.pointer none,.int .i64 1])/\w=w':=by
 cases hg:g.toList.isEmpty with
 |true=>
  have hg2:(g.toList==[])=true:=by rw[show g.toList=[]by simpa using hg];rfl
  clear h hg;go_enter Tryz.func93,Tryz.ntmps93
  go_wp2_with fail
  go_ret2
  exact⟨rfl,rfl⟩
 |false=>
  have hg2:(g.toList==[])=false:=by cases hq:g.toList with|nil=>rw[hq]at hg;cases hg|cons=>rfl
  have hn2:(nm.toList==[])=true:=by
   rcases h with h|h
   ·rw[hg]at h;cases h
   ·rw[show nm.toList=[]by simpa using h];rfl
  clear h hg;go_enter Tryz.func93,Tryz.ntmps93
  go_wp2_with fail
  go_ret2
  exact⟨rfl,rfl⟩
def kP(K:aU):List (Rk×Value):=K.NS.map fun x=>(x.key,aK x.blk)
theorem GD(K:aU)(eb:Nat)(x:sI)(nd:gy)(w:World)(H:bq w K)(hx:aQ w eb x)(hap:eb∉K.feet)(hf:aS (kP K) (x.s.g,x.s.n)=some (aK nd.blk)):
  Calls Tryz.prog 55 #[aK K.p,aK eb] w fun e w'=>e=.returned (.bool true)/\aQ w' eb {x with vg:=x.s.g,node:=aK nd.blk}/\ai [eb] w w':=by
 have hE:=hx;have hbp:eb≠K.p:=fun e=>hap (by rw[e];exact K.p_mem)
 have wF:eb≠K.m:=fun e=>hap (by rw[e];exact K.m_mem)
 have hp:=H.sp;have hM:cu bT w K.m (kP K):=H.nm;have hpm:K.p≠K.m:=by
  have hn:=nQ (A:=[[K.p]]) (C:=[K.m]) (B:=[K.h,K.hm]::aZ K.bb K.bv::K.RB::K.NS.map gy.feet) H.apart;simpa using hn [K.p] (by simp) K.p (by simp)
 obtain⟨c0,c1,c2,c3,c4,c5,c6,c7,c8,c9,c10,c11,c12,c13⟩:=bE hx;have p0:w.cell? ⟨K.p,0,none⟩=some (.map (some K.m)):=by rw[cell_of_row _ _ _ _ _ _ hp];rfl
 change Hid _ at H hap;go_enter Tryz.func55,Tryz.ntmps55
 have hA1:=(ai.refl [] w).alloc (.cells #[.string ⟨#[]⟩,.string ⟨#[]⟩] 87);have hx1:=hx.own hA1 (by simp);obtain⟨d0,d1,d2,d3,d4,d5,d6,d7,d8,d9,zh,Ak,Al,BG⟩:=bE hx1;go_wp2_with fail
 go_region
 all_goals
  generalize hW1:World.alloc _ _=W1;have aH:ai [] w W1:=by rw[<-hW1];first|exact(ai.refl [] w).drew.alloc _|exact((ai.refl [] w).alloc _).drew|exact(ai.refl [] w).alloc _
  have hk1:W1.drew.heap[w.heap.size]?=some (.cells #[.string x.s.g,.string x.s.n] 87 (0,0)):=by rw[<-hW1];exact heap_alloc_new _ _
  have hO2:ai [] w W1.drew:=aH.drew;clear aH hW1 hx1 hA1 d0 d1 d2 d3 d4 d5 d6 d7 d8 d9 zh Ak Al BG;generalize W1.drew=W2 at*;obtain⟨kb,hkb⟩: ∃kb,kb=w.heap.size:=⟨_,rfl⟩;rw[<-hkb]at hk1⊢;have hbl:=aj hx;have hpl:=aj hp;have hml:=hM.lt;have hbk:eb<kb:=by omega
  have hpk:K.p<kb:=by omega
  have hmk:K.m<kb:=by omega
  have WJ:w.heap.size<=kb:=by omega
  clear hkb hbl hpl hml;have hE2:=hx.own hO2 (by simp);have ji:aQ (W2.setCell ⟨eb,11,none⟩ (.string x.s.g)) eb {x with vg:=x.s.g}:=by
   have:=heap_setCell_same _ eb 11 _ _ (.string x.s.g) hE2;simpa[aQ]using this
  have hO3:ai [eb] w (W2.setCell ⟨eb,11,none⟩ (.string x.s.g)):=(hO2.nil).setCell (.inl (by simp)) _;have dI:ai [eb] W2 (W2.setCell ⟨eb,11,none⟩ (.string x.s.g)):=(ai.refl _ _).setCell (.inl (by simp)) _;have Uj:=frozen_of_row _ eb 11 _ _ hE2;have b11:=(bE hE2).2.2.2.2.2.2.2.2.2.2.2.1;have k0:W2.cell? ⟨kb,0,none⟩=some (.string x.s.g):=cell_of_row _ kb 0 _ _ _ hk1;have k1:W2.cell? ⟨kb,1,none⟩=some (.string x.s.n):=cell_of_row _ kb 1 _ _ _ hk1;have hk3:=dI.heap hk1 (by simp;omega);have hp3:=hO3.heap hp (by simpa using hbp.symm);have dY:=hM.own hO3 (by simpa using wF.symm);clear c0 c1 c2 c3 c4 c5 c6 c7 c8 c9 c10 c11 c12 c13 p0;generalize hW3:W2.setCell ⟨eb,11,none⟩ (.string x.s.g)=W3 at*;have f0:W3.cell? ⟨kb,0,none⟩=some (.string x.s.g):=cell_of_row _ kb 0 _ _ _ hk3;have f1:W3.cell? ⟨kb,1,none⟩=some (.string x.s.n):=cell_of_row _ kb 1 _ _ _ hk3;have q0:W3.cell? ⟨K.p,0,none⟩=some (.map (some K.m)):=by rw[cell_of_row _ _ _ _ _ _ hp3];rfl
  have hlk:=dY.lookup_yes (P:=Tryz.prog) fP gG (x.s.g,x.s.n) hf true;have hlk2:=(dY.own ((ai.refl [] W3).drew) (by simp)).lookup_yes (P:=Tryz.prog) fP gG (x.s.g,x.s.n) hf true;simp only[bT,if_true]at hlk hlk2;go_wp2_with fail
  go_region
  all_goals
   have jN:=ji.own ((ai.refl [] W3).drew) (by simp);obtain⟨iF,aB,z9⟩:=jN.setc (y:={x with vg:=x.s.g,node:=aK nd.blk}) 9 (aK nd.blk) (fun w' h=>h);have b9:=(bE jN).2.2.2.2.2.2.2.2.2.1;have o6:=af ((hO3.drew).trans aB);change Hid _ at iF;clear hlk hlk2 f0 f1 q0 ji hO3 dY jN aB hk3 hp3 hM hp hE hO2 dI hE2 k0 k1 b11 Uj hk1;go_wp2_with fail
   go_ret
   exact⟨rfl,iF.out,o6.out⟩
theorem Pq(K:aU)(eb:Nat)(x:sI)(w:World)(H:bq w K)(hx:aQ w eb x)(hap:eb∉K.feet)(hf:aS (kP K) (x.s.g,x.s.n)=none)(hbad:x.s.g.toList.isEmpty=true\/x.s.n.toList.isEmpty=true):
  Calls Tryz.prog 55 #[aK K.p,aK eb] w fun e w'=>e=.returned (.bool false)/\aQ w' eb {x with vg:=x.s.g,code:=8}/\ai [eb] w w':=by
 have hE:=hx;have hbp:eb≠K.p:=fun e=>hap (by rw[e];exact K.p_mem)
 have wF:eb≠K.m:=fun e=>hap (by rw[e];exact K.m_mem)
 have hp:=H.sp;have hM:cu bT w K.m (kP K):=H.nm;have hpm:K.p≠K.m:=by
  have hn:=nQ (A:=[[K.p]]) (C:=[K.m]) (B:=[K.h,K.hm]::aZ K.bb K.bv::K.RB::K.NS.map gy.feet) H.apart;simpa using hn [K.p] (by simp) K.p (by simp)
 obtain⟨c0,c1,c2,c3,c4,c5,c6,c7,c8,c9,c10,c11,c12,c13⟩:=bE hx;have p0:w.cell? ⟨K.p,0,none⟩=some (.map (some K.m)):=by rw[cell_of_row _ _ _ _ _ _ hp];rfl
 change Hid _ at H hap;go_enter Tryz.func55,Tryz.ntmps55
 have hA1:=(ai.refl [] w).alloc (.cells #[.string ⟨#[]⟩,.string ⟨#[]⟩] 87);have hx1:=hx.own hA1 (by simp);obtain⟨d0,d1,d2,d3,d4,d5,d6,d7,d8,d9,zh,Ak,Al,BG⟩:=bE hx1;go_wp2_with fail
 go_region
 all_goals
  generalize hW1:World.alloc _ _=W1;have aH:ai [] w W1:=by rw[<-hW1];first|exact(ai.refl [] w).drew.alloc _|exact((ai.refl [] w).alloc _).drew|exact(ai.refl [] w).alloc _
  have hk1:W1.drew.heap[w.heap.size]?=some (.cells #[.string x.s.g,.string x.s.n] 87 (0,0)):=by rw[<-hW1];exact heap_alloc_new _ _
  have hO2:ai [] w W1.drew:=aH.drew;clear aH hW1 hx1 hA1 d0 d1 d2 d3 d4 d5 d6 d7 d8 d9 zh Ak Al BG;generalize W1.drew=W2 at*;obtain⟨kb,hkb⟩: ∃kb,kb=w.heap.size:=⟨_,rfl⟩;rw[<-hkb]at hk1⊢;have hbl:=aj hx;have hpl:=aj hp;have hml:=hM.lt;have hbk:eb<kb:=by omega
  have hpk:K.p<kb:=by omega
  have hmk:K.m<kb:=by omega
  have WJ:w.heap.size<=kb:=by omega
  clear hkb hbl hpl hml;have hE2:=hx.own hO2 (by simp);have ji:aQ (W2.setCell ⟨eb,11,none⟩ (.string x.s.g)) eb {x with vg:=x.s.g}:=by
   have:=heap_setCell_same _ eb 11 _ _ (.string x.s.g) hE2;simpa[aQ]using this
  have hO3:ai [eb] w (W2.setCell ⟨eb,11,none⟩ (.string x.s.g)):=(hO2.nil).setCell (.inl (by simp)) _;have dI:ai [eb] W2 (W2.setCell ⟨eb,11,none⟩ (.string x.s.g)):=(ai.refl _ _).setCell (.inl (by simp)) _;have Uj:=frozen_of_row _ eb 11 _ _ hE2;have b11:=(bE hE2).2.2.2.2.2.2.2.2.2.2.2.1;have k0:W2.cell? ⟨kb,0,none⟩=some (.string x.s.g):=cell_of_row _ kb 0 _ _ _ hk1;have k1:W2.cell? ⟨kb,1,none⟩=some (.string x.s.n):=cell_of_row _ kb 1 _ _ _ hk1;have hk3:=dI.heap hk1 (by simp;omega);have hp3:=hO3.heap hp (by simpa using hbp.symm);have dY:=hM.own hO3 (by simpa using wF.symm);clear c0 c1 c2 c3 c4 c5 c6 c7 c8 c9 c10 c11 c12 c13 p0;generalize hW3:W2.setCell ⟨eb,11,none⟩ (.string x.s.g)=W3 at*;have f0:W3.cell? ⟨kb,0,none⟩=some (.string x.s.g):=cell_of_row _ kb 0 _ _ _ hk3;have f1:W3.cell? ⟨kb,1,none⟩=some (.string x.s.n):=cell_of_row _ kb 1 _ _ _ hk3;have q0:W3.cell? ⟨K.p,0,none⟩=some (.map (some K.m)):=by rw[cell_of_row _ _ _ _ _ _ hp3];rfl
  have hlk:=dY.lookup_no fP gG (x.s.g,x.s.n) (vN W3) hf true;have hlk2:=(dY.own ((ai.refl [] W3).drew) (by simp)).lookup_no fP gG (x.s.g,x.s.n) (vN W3.drew) hf true;simp only[bT,if_true]at hlk hlk2;go_wp2_with fail
  go_region
  all_goals
   go_wp2_with fail
   refine(Lm x.s.g x.s.n W3.drew hbad).mono ?_;rintro e w4 ⟨rfl,rfl⟩;have jN:=ji.own ((ai.refl [] W3).drew) (by simp);obtain⟨iF,aB,XU⟩:=jN.setc (y:={x with vg:=x.s.g,code:=8}) 10 (.int .i64 8) (fun w' h=>h);have b10:=(bE jN).2.2.2.2.2.2.2.2.2.2.1;have o6:=af ((hO3.drew).trans aB);change Hid _ at iF;clear hlk hlk2 f0 f1 q0 ji hO3 dY jN aB hk3 hp3 hM hp hE hO2 dI hE2 k0 k1 b11 Uj hk1;go_wp2_with fail
   go_ret
   exact⟨rfl,iF.out,o6.out⟩
theorem Lp(K:aU)(eb:Nat)(x:sI)(w:World)(H:bq w K)(hx:aQ w eb x)(hap:eb∉K.feet)(hf:aS (kP K) (x.s.g,x.s.n)=none)(hg:x.s.g.toList.isEmpty=false)(hn:x.s.n.toList.isEmpty=false)(hl:K.NS.length=8):
  Calls Tryz.prog 55 #[aK K.p,aK eb] w fun e w'=>e=.returned (.bool false)/\aQ w' eb {x with vg:=x.s.g,code:=8}/\ai [eb] w w':=by
 have hE:=hx;have hbp:eb≠K.p:=fun e=>hap (by rw[e];exact K.p_mem)
 have wF:eb≠K.m:=fun e=>hap (by rw[e];exact K.m_mem)
 have hp:=H.sp;have hM:cu bT w K.m (kP K):=H.nm;have hpm:K.p≠K.m:=by
  have hn:=nQ (A:=[[K.p]]) (C:=[K.m]) (B:=[K.h,K.hm]::aZ K.bb K.bv::K.RB::K.NS.map gy.feet) H.apart;simpa using hn [K.p] (by simp) K.p (by simp)
 obtain⟨c0,c1,c2,c3,c4,c5,c6,c7,c8,c9,c10,c11,c12,c13⟩:=bE hx;have p0:w.cell? ⟨K.p,0,none⟩=some (.map (some K.m)):=by rw[cell_of_row _ _ _ _ _ _ hp];rfl
 change Hid _ at H hap;have hll:Hid ((kP K).length=8):=af (by unfold kP;simpa using hl);clear hl;go_enter Tryz.func55,Tryz.ntmps55
 have hA1:=(ai.refl [] w).alloc (.cells #[.string ⟨#[]⟩,.string ⟨#[]⟩] 87);have hx1:=hx.own hA1 (by simp);obtain⟨d0,d1,d2,d3,d4,d5,d6,d7,d8,d9,zh,Ak,Al,BG⟩:=bE hx1;go_wp2_with fail
 go_region
 all_goals
  generalize hW1:World.alloc _ _=W1;have aH:ai [] w W1:=by rw[<-hW1];first|exact(ai.refl [] w).drew.alloc _|exact((ai.refl [] w).alloc _).drew|exact(ai.refl [] w).alloc _
  have hk1:W1.drew.heap[w.heap.size]?=some (.cells #[.string x.s.g,.string x.s.n] 87 (0,0)):=by rw[<-hW1];exact heap_alloc_new _ _
  have hO2:ai [] w W1.drew:=aH.drew;clear aH hW1 hx1 hA1 d0 d1 d2 d3 d4 d5 d6 d7 d8 d9 zh Ak Al BG;generalize W1.drew=W2 at*;obtain⟨kb,hkb⟩: ∃kb,kb=w.heap.size:=⟨_,rfl⟩;rw[<-hkb]at hk1⊢;have hbl:=aj hx;have hpl:=aj hp;have hml:=hM.lt;have hbk:eb<kb:=by omega
  have hpk:K.p<kb:=by omega
  have hmk:K.m<kb:=by omega
  have WJ:w.heap.size<=kb:=by omega
  clear hkb hbl hpl hml;have hE2:=hx.own hO2 (by simp);have ji:aQ (W2.setCell ⟨eb,11,none⟩ (.string x.s.g)) eb {x with vg:=x.s.g}:=by
   have:=heap_setCell_same _ eb 11 _ _ (.string x.s.g) hE2;simpa[aQ]using this
  have hO3:ai [eb] w (W2.setCell ⟨eb,11,none⟩ (.string x.s.g)):=(hO2.nil).setCell (.inl (by simp)) _;have dI:ai [eb] W2 (W2.setCell ⟨eb,11,none⟩ (.string x.s.g)):=(ai.refl _ _).setCell (.inl (by simp)) _;have Uj:=frozen_of_row _ eb 11 _ _ hE2;have b11:=(bE hE2).2.2.2.2.2.2.2.2.2.2.2.1;have k0:W2.cell? ⟨kb,0,none⟩=some (.string x.s.g):=cell_of_row _ kb 0 _ _ _ hk1;have k1:W2.cell? ⟨kb,1,none⟩=some (.string x.s.n):=cell_of_row _ kb 1 _ _ _ hk1;have hk3:=dI.heap hk1 (by simp;omega);have hp3:=hO3.heap hp (by simpa using hbp.symm);have dY:=hM.own hO3 (by simpa using wF.symm);clear c0 c1 c2 c3 c4 c5 c6 c7 c8 c9 c10 c11 c12 c13 p0;generalize hW3:W2.setCell ⟨eb,11,none⟩ (.string x.s.g)=W3 at*;have f0:W3.cell? ⟨kb,0,none⟩=some (.string x.s.g):=cell_of_row _ kb 0 _ _ _ hk3;have f1:W3.cell? ⟨kb,1,none⟩=some (.string x.s.n):=cell_of_row _ kb 1 _ _ _ hk3;have q0:W3.cell? ⟨K.p,0,none⟩=some (.map (some K.m)):=by rw[cell_of_row _ _ _ _ _ _ hp3];rfl
  have hlk:=dY.lookup_no fP gG (x.s.g,x.s.n) (vN W3) hf true;have hlk2:=(dY.own ((ai.refl [] W3).drew) (by simp)).lookup_no fP gG (x.s.g,x.s.n) (vN W3.drew) hf true;simp only[bT,if_true]at hlk hlk2;go_wp2_with fail
  go_region
  all_goals
   go_wp2_with fail
   refine(xW x.s.g x.s.n W3.drew hg hn).mono ?_;rintro e w4 ⟨n,L,rfl,X7,hft,hO4⟩;have kr:ai [] W3 w4:=(ai.refl [] W3).drew.trans hO4;have hz3:=hO3.size;have hk4:=kr.heap hk3 (by simp);have za:=kr.heap hp3 (by simp);have Am:=dY.own kr (by simp);have jN:=ji.own kr (by simp);have g0:w4.cell? ⟨kb,0,none⟩=some (.string x.s.g):=cell_of_row _ kb 0 _ _ _ hk4;have g1:w4.cell? ⟨kb,1,none⟩=some (.string x.s.n):=cell_of_row _ kb 1 _ _ _ hk4;have r0:w4.cell? ⟨K.p,0,none⟩=some (.map (some K.m)):=by rw[cell_of_row _ _ _ _ _ _ za];rfl
   have hlen:=Am.len_run (P:=Tryz.prog) gG;rw[hll.out]at hlen;obtain⟨iF,aB,XU⟩:=jN.setc (y:={x with vg:=x.s.g,code:=8}) 10 (.int .i64 8) (fun w' h=>h);have b10:=(bE jN).2.2.2.2.2.2.2.2.2.2.1;have o6:=af ((hO3.trans kr.nil).trans aB);change Hid _ at iF;clear hlk hlk2 f0 f1 q0 ji hO3 dY jN aB hk3 hp3 hM hp hE hO2 dI hE2 k0 k1 b11 Uj hk1 X7 hft hO4 kr hk4 za Am;go_wp2_with fail
   go_ret
   exact⟨rfl,iF.out,o6.out⟩
end Go.Proofs.YtedcakchekaemaaGreatDoor
namespace Go.Proofs.YtedcakchekaemaaGreatDoor
open Go.RowKit
theorem L8(a:Option Addr)(c:Nat)(fv:Value)(W:World):Calls Tryz.prog 104 #[.slice a 1 c,.int .i64 0,.int .i64 1,fv] W fun e w'=>e=.returned (.tuple #[])/\W=w':=by
 go_enter Tryz.func104,Tryz.ntmps104
 go_wp2_with fail
 refine wp_loop_rounds 1 ?_;rw[rounds_succ];go_wp2_with fail
 go_end0
 exact⟨rfl,rfl⟩
theorem Ma(a:Option Addr)(c:Nat)(fv:Value)(n:Int)(W:World):Calls Tryz.prog 63 #[.slice a 1 c,.int .i64 0,.int .i64 1,.int .i64 n,fv] W fun e w'=>e=.returned (.tuple #[])/\W=w':=by
 have H:=af (fun W=>L8 a c fv W);go_enter Tryz.func63,Tryz.ntmps63
 go_wp2_with fail
 refine wp_loop_rounds 1 ?_;rw[rounds_succ];go_wp2_with(go_at_call 104;refine(H.out _).mono ?_;rintro e w' ⟨rfl,rfl⟩)
 (try simp only[Exit.inBlock,Exit.then]);refine bodyPost_ret (results_none rfl _ _ _) rfl ?_
 exact⟨rfl,rfl⟩
theorem Ho(a:Option Addr)(c:Nat)(fv:Value)(W:World):Calls Tryz.prog 26 #[.slice a 1 c,fv] W fun e w'=>e=.returned (.tuple #[])/\ai [] W w':=by
 have H:=af (fun n W=>Ma a c fv n W);go_enter Tryz.func26,Tryz.ntmps26
 go_wp2_with(first|(go_at_call 63;refine(H.out _ _).mono ?_;rintro e w' ⟨rfl,rfl⟩)|go_in)
 go_end0
 exact⟨rfl,ai.refl _ _⟩
structure NV where
 g:ByteArray
 n:ByteArray
 p:Bool
def uh(x:NV):List Value:=[.string x.g,.string x.n,.bool false,.int .i64 0,.int .i64 0,.bool x.p,.slice none 0 0,.slice none 0 0]
theorem V7:(Tryz.prog.info? 38).map (fun i=>(i.zero,i.size,i.bytes))=some (some (.agg #[.string ⟨#[]⟩,.string ⟨#[]⟩,.bool false,.int .i64 0,.int .i64 0,.bool false,.slice none 0 0,.slice none 0 0]),8,112):=by kernel_rfl
theorem V8:je Tryz.prog 33 38 uh 8 112 where
 ut:=Tryz.underlying33
 info:=by obtain⟨i,h1,h2,h3,h4⟩:=info_parts V7;exact⟨i,_,h1,h2,h3,h4,rfl⟩
 pos:=by omega
 len:=fun _=>rfl
 one x u hu:=by simp only[uh,List.mem_cons,List.not_mem_nil,or_false]at hu;rcases hu with rfl|rfl|rfl|rfl|rfl|rfl|rfl|rfl<;>rfl
theorem Mc{p m n rr a:Nat}{g nm:ByteArray}{pe:Bool}(W:World)(h0:W.cell? ⟨p,0,none⟩=some (.map (some m)))(hM:cu bT W m [((g,nm),.pointer (some ⟨n,0,none⟩))])(hF:mg W n rr a g nm pe):
  Calls Tryz.prog 10 #[aK p] W fun e w'=>(∃a c,e=.returned (.slice a 1 c))/\ai [] W w':=by
 have cN:=af (mZ p m W h0);obtain⟨w1,hr,hI,hO,_⟩:=hM.range (P:=Tryz.prog) gG;rcases hI.next (P:=Tryz.prog) 0 with⟨hn,_⟩|⟨r1,r2,q,w2,mQ,h1,hI2,hO2,hs2,hen⟩
 ·simp at hn
 have acF:r1=[]/\r2=[]/\q=((g,nm),.pointer (some ⟨n,0,none⟩)):=by
  cases r1 with
  |nil=>
   simp at mQ;exact⟨rfl,mQ.2,mQ.1.symm⟩
  |cons x r1=>simp at mQ
 obtain⟨rfl,rfl,rfl⟩:=acF;have hnx: ∀ty,(Instr.next (.pointer (some ⟨W.heap.size,0,none⟩)) false ty).run Tryz.prog w1=.ok (.tuple #[.bool true,bT (g,nm),.pointer (some ⟨n,0,none⟩)]) w2:=fun ty=>h1
 simp only[bT]at hnx hen;have dw:ai [] W w2:=hO.trans' hO2 (by simp);have cV:=af (Ce (hF.own dw));have hIn:=af fun W' (ho:ai [] w2 W')=>(hI2.own ho (by simp) (by simp))
 have cS:=af fun a c fv W=>Ho a c fv W
 replace dw:=af dw;clear mQ h1 hI hI2 hO2 hM hF hO;go_enter Tryz.func10,Tryz.ntmps10
 go_wp2_with(go_at_call 22;((with_reducible refine cN.out.mono ?_);rintro e w2 ⟨rfl,rfl⟩))
 refine wp_loop_rounds 2 ?_;rw[rounds_succ];go_wp2_with fail
 with_reducible refine cV.out.mono ?_
 rintro e w3 ⟨rfl,hO3⟩;have hOb:Hid (ai [] (w3.alloc (.cells (uh ⟨g,nm,pe⟩).toArray 38)) (w3.alloc (.cells (uh ⟨g,nm,pe⟩).toArray 38))):=af (ai.refl _ _);have hSb:Hid (Sl 38 uh 8 (w3.alloc (.cells (uh ⟨g,nm,pe⟩).toArray 38)).heap.size (w3.alloc (.cells (uh ⟨g,nm,pe⟩).toArray 38)) (.slice none 0 0) ([]:List NV)):=af (Sl.nil _ _ _);have hRb:=af (aA.new (enc:=uh) (T:=38) w3 ⟨g,nm,pe⟩ 1);have hO4:=af (hO3.alloc (.cells (uh ⟨g,nm,pe⟩).toArray 38));clear hO3;go_wp2_with(at_builtin;refine iX rfl (.tmp 17) (.tmp 20) rfl V8 hOb.out rfl hSb.out rfl hRb.out (by simp) (by simp[maxLen]) ?_;intro va w5 hS5 aB _ _;obtain⟨a2,c2,rfl⟩:=hS5.sl;replace aB:=af aB;clear hS5)
 have iw:ai [] w2 w5:=hO4.out.trans aB.out;rcases(hIn.out w5 iw).next (P:=Tryz.prog) 0 with⟨_,hf⟩|⟨r1,r2,q,w6,mQ,_⟩
 ·have hnf: ∀ty,(Instr.next (.pointer (some ⟨W.heap.size,0,none⟩)) false ty).run Tryz.prog w5=.ok (.tuple #[.bool false]) w5:=fun ty=>hf
  have Xo:=af (dw.out.trans iw);clear hf hnx hen hIn hOb hSb hRb hO4 aB iw cV cN;rw[rounds_succ];go_wp2_with(go_at_call 26;((with_reducible refine(cS.out _ _ _ _).mono ?_);rintro e w7 ⟨rfl,gU⟩;replace gU:=af gU))
  go_ret
  exact⟨⟨_,_,rfl⟩,Xo.out.trans gU.out⟩
 ·have:=congrArg List.length mQ
  simp at this
theorem Af{p m:Nat}{h bb r:Value}{n:Int}(W:World)(hp:W.heap[p]?=some (.cells #[.map (some m),h,bb,r,.int .i64 n] 73 (0,0))):
  Calls Tryz.prog 30 #[aK p] W fun e w'=>e=.returned (.int .i64 n)/\W=w':=by
 have h0:W.cell? ⟨p,0,none⟩=some (.map (some m)):=by rw[cell_of_row _ _ _ _ _ _ hp];rfl
 have h4:W.cell? ⟨p,4,none⟩=some (.int .i64 n):=by rw[cell_of_row _ _ _ _ _ _ hp];rfl
 have cN:=af (mZ p m W h0);clear hp;go_enter Tryz.func30,Tryz.ntmps30
 go_wp2_with(go_at_call 22;((with_reducible refine cN.out.mono ?_);rintro e w2 ⟨rfl,rfl⟩))
 go_ret
 exact⟨rfl,rfl⟩
end Go.Proofs.YtedcakchekaemaaGreatDoor
namespace Go.Proofs.YtedcakchekaemaaGreatDoor
open Go.RowKit
variable [Kd]
theorem GH{l:List (Rk×Value)}{k:Rk}{v:Value}(h:aS l k=none):bZ l k v=l++[(k,v)]:=by
 induction l with
 |nil=>rfl
 |cons p r ih=>
  cases hp:(p.1==k)with
  |true=>simp[aS,hp]at h
  |false=>
   have h2:aS r k=none:=by simpa[aS,hp]using h
   simp[bZ,hp,ih h2]
theorem Sy{α:Type}{l:List (Rk×α)}{k:Rk}(h:aS l k=none):k∉l.map (·.1):=by
 induction l with
 |nil=>simp
 |cons p r ih=>
  cases hp:(p.1==k)with
  |true=>simp[aS,hp]at h
  |false=>
   have h2:aS r k=none:=by simpa[aS,hp]using h
   have h3:k≠p.1:=fun e=>by rw[e]at hp;simp at hp
   simp only[List.map_cons,List.mem_cons,not_or];exact⟨h3,ih h2⟩
theorem Pt{K:aU}{k:Rk}(h:aS (kP K) k=none):k∉K.NS.map gy.key:=by
 have:=Sy h;unfold kP at this;simpa using this
theorem Pv(K:aU)(eb:Nat)(x:sI)(w:World)(H:bq w K)(hx:aQ w eb x)(hap:eb∉K.feet)(hf:aS (kP K) (x.s.g,x.s.n)=none)(hg:x.s.g.toList.isEmpty=false)(hn:x.s.n.toList.isEmpty=false)(hl:K.NS.length<8):
  Calls Tryz.prog 55 #[aK K.p,aK eb] w fun e w'=>e=.returned (.bool true)/\ ∃n L,aQ w' eb {x with vg:=x.s.g,node:=aK n}/\bq w' {K with NS:=K.NS++[⟨x.s.g,x.s.n,n,L,⟨false,0,0,false,false,[],[],[]⟩⟩]}/\ai [eb,K.m] w w'/\ ∀z∈aU.feet {K with NS:=K.NS++[⟨x.s.g,x.s.n,n,L,⟨false,0,0,false,false,[],[],[]⟩⟩]},z∈K.feet\/w.heap.size<=z:=by
 have hE:=hx;have hbp:eb≠K.p:=fun e=>hap (by rw[e];exact K.p_mem)
 have wF:eb≠K.m:=fun e=>hap (by rw[e];exact K.m_mem)
 have hp:=H.sp;have hM:cu bT w K.m (kP K):=H.nm;have hpm:K.p≠K.m:=by
  have hn:=nQ (A:=[[K.p]]) (C:=[K.m]) (B:=[K.h,K.hm]::aZ K.bb K.bv::K.RB::K.NS.map gy.feet) H.apart;simpa using hn [K.p] (by simp) K.p (by simp)
 obtain⟨c0,c1,c2,c3,c4,c5,c6,c7,c8,c9,c10,c11,c12,c13⟩:=bE hx;have p0:w.cell? ⟨K.p,0,none⟩=some (.map (some K.m)):=by rw[cell_of_row _ _ _ _ _ _ hp];rfl
 change Hid _ at hap;replace H:=af H;have hll:Hid ((kP K).length<8):=af (by unfold kP;simpa using hl);have hl8:=af hl;clear hl;go_enter Tryz.func55,Tryz.ntmps55
 have hA1:=(ai.refl [] w).alloc (.cells #[.string ⟨#[]⟩,.string ⟨#[]⟩] 87);have hx1:=hx.own hA1 (by simp);obtain⟨d0,d1,d2,d3,d4,d5,d6,d7,d8,d9,zh,Ak,Al,BG⟩:=bE hx1;go_wp2_with fail
 go_region
 all_goals
  generalize hW1:World.alloc _ _=W1;have aH:ai [] w W1:=by rw[<-hW1];first|exact(ai.refl [] w).drew.alloc _|exact((ai.refl [] w).alloc _).drew|exact(ai.refl [] w).alloc _
  have hk1:W1.drew.heap[w.heap.size]?=some (.cells #[.string x.s.g,.string x.s.n] 87 (0,0)):=by rw[<-hW1];exact heap_alloc_new _ _
  have hO2:ai [] w W1.drew:=aH.drew;clear aH hW1 hx1 hA1 d0 d1 d2 d3 d4 d5 d6 d7 d8 d9 zh Ak Al BG;generalize W1.drew=W2 at*;obtain⟨kb,hkb⟩: ∃kb,kb=w.heap.size:=⟨_,rfl⟩;rw[<-hkb]at hk1⊢;have hbl:=aj hx;have hpl:=aj hp;have hml:=hM.lt;have hbk:eb<kb:=by omega
  have hpk:K.p<kb:=by omega
  have hmk:K.m<kb:=by omega
  have WJ:w.heap.size<=kb:=by omega
  clear hkb hbl hpl hml;have hE2:=hx.own hO2 (by simp);have ji:aQ (W2.setCell ⟨eb,11,none⟩ (.string x.s.g)) eb {x with vg:=x.s.g}:=by
   have:=heap_setCell_same _ eb 11 _ _ (.string x.s.g) hE2;simpa[aQ]using this
  have hO3:ai [eb] w (W2.setCell ⟨eb,11,none⟩ (.string x.s.g)):=(hO2.nil).setCell (.inl (by simp)) _;have dI:ai [eb] W2 (W2.setCell ⟨eb,11,none⟩ (.string x.s.g)):=(ai.refl _ _).setCell (.inl (by simp)) _;have Uj:=frozen_of_row _ eb 11 _ _ hE2;have b11:=(bE hE2).2.2.2.2.2.2.2.2.2.2.2.1;have k0:W2.cell? ⟨kb,0,none⟩=some (.string x.s.g):=cell_of_row _ kb 0 _ _ _ hk1;have k1:W2.cell? ⟨kb,1,none⟩=some (.string x.s.n):=cell_of_row _ kb 1 _ _ _ hk1;have hk3:=dI.heap hk1 (by simp;omega);have hp3:=hO3.heap hp (by simpa using hbp.symm);have dY:=hM.own hO3 (by simpa using wF.symm);clear c0 c1 c2 c3 c4 c5 c6 c7 c8 c9 c10 c11 c12 c13 p0;generalize hW3:W2.setCell ⟨eb,11,none⟩ (.string x.s.g)=W3 at*;have f0:W3.cell? ⟨kb,0,none⟩=some (.string x.s.g):=cell_of_row _ kb 0 _ _ _ hk3;have f1:W3.cell? ⟨kb,1,none⟩=some (.string x.s.n):=cell_of_row _ kb 1 _ _ _ hk3;have q0:W3.cell? ⟨K.p,0,none⟩=some (.map (some K.m)):=by rw[cell_of_row _ _ _ _ _ _ hp3];rfl
  have hlk:=dY.lookup_no fP gG (x.s.g,x.s.n) (vN W3) hf true;have hlk2:=(dY.own ((ai.refl [] W3).drew) (by simp)).lookup_no fP gG (x.s.g,x.s.n) (vN W3.drew) hf true;simp only[bT,if_true]at hlk hlk2;go_wp2_with fail
  go_region
  all_goals
   go_wp2_with fail
   refine(xW x.s.g x.s.n W3.drew hg hn).mono ?_;rintro e w4 ⟨n,L,rfl,X7,hft,hO4⟩;have kr:ai [] W3 w4:=(ai.refl [] W3).drew.trans hO4;have hz3:=hO3.size;have hk4:=kr.heap hk3 (by simp);have za:=kr.heap hp3 (by simp);have Am:=dY.own kr (by simp);have jN:=ji.own kr (by simp);have g0:w4.cell? ⟨kb,0,none⟩=some (.string x.s.g):=cell_of_row _ kb 0 _ _ _ hk4;have g1:w4.cell? ⟨kb,1,none⟩=some (.string x.s.n):=cell_of_row _ kb 1 _ _ _ hk4;have r0:w4.cell? ⟨K.p,0,none⟩=some (.map (some K.m)):=by rw[cell_of_row _ _ _ _ _ _ za];rfl
   have hlen:=Am.len_run (P:=Tryz.prog) gG;have hl9: ¬(8:Int)<=((kP K).length:Int):=by have:=hll.out;omega
   obtain⟨w5,hu,ZJ,iw,hs5⟩:=(Am.own ((ai.refl [] w4).drew) (by simp)).update fP gG (x.s.g,x.s.n) (.pointer (some ⟨n,0,none⟩));simp only[bT]at hu;have aB:ai [K.m] w4 w5:=(ai.refl [K.m] w4).drew.trans iw;have iF:=jN.own aB (by simpa using wF);have z9:=frozen_of_row _ eb 9 _ _ iF;have b9:=(bE iF).2.2.2.2.2.2.2.2.2.1;have ZK:bq W3 K:=H.out.own hO3 (fun z hz hc=>by simp at hc;subst hc;exact hap.out hz);have hm3:=dY.lt;have mW:ai [K.m] W3 w5:=kr.nil.trans aB;have ZL:au w5 n x.s.g x.s.n L ⟨false,0,0,false,false,[],[],[]⟩:=X7.own aB (fun z hz hc=>by
    simp at hc;have h1:=hft z hz;simp at h1;omega)
   rw[GH hf]at ZJ;obtain⟨lW,Jt⟩:=ZK.push (x:=⟨x.s.g,x.s.n,n,L,⟨false,0,0,false,false,[],[],[]⟩⟩) ZL mW ZJ (fun z hz=>by have:=hft z hz;simpa using this) (Pt hf) hl8.out;have hel:=aj ji;have hno:eb∉aU.feet {K with NS:=K.NS++[⟨x.s.g,x.s.n,n,L,⟨false,0,0,false,false,[],[],[]⟩⟩]}:=fun hx=>by
    rcases Jt eb hx with h1|h1
    ·exact hap.out h1
    ·omega
   obtain⟨Ez,bI,_⟩:=iF.setc (y:={x with vg:=x.s.g,node:=aK n}) 9 (aK n) (fun w' h=>h);have ab5:=af (lW.own bI (fun z hz hc=>by simp at hc;subst hc;exact hno hz));have o6:=af (((hO3.mono (by intro z hz;simp at hz;subst hz;simp):ai [eb,K.m] w W3).trans (mW.mono (by simp))).trans (bI.mono (by intro z hz;simp at hz;subst hz;simp)));have hFf:=af (fun z hz=>(Jt z hz).imp id (fun h=>Nat.le_trans hz3 h));change Hid _ at Ez;clear hlk hlk2 f0 f1 q0 ji hO3 dY hk3 hp3 hM hp hE hO2 dI hE2 k0 k1 b11 Uj hk1 X7 hft hO4 kr hk4 za Am jN ZJ iw aB ZK mW ZL lW Jt iF bI hno;go_wp2_with fail
   go_region
   all_goals
    go_wp2_with fail
    go_ret
    exact⟨rfl,n,L,Ez.out,ab5.out,o6.out,hFf.out⟩
end Go.Proofs.YtedcakchekaemaaGreatDoor
namespace Go.Proofs.YtedcakchekaemaaGreatDoor
open Go.RowKit
theorem Eh(W:World):Calls Tryz.prog 19 #[.int .i64 10] W fun e w'=> ∃s,e=.returned (.tuple #[aK s,.int .i64 0])/\w'.heap[s]?=some (.cells #[.int .i64 10,.slice none 0 0,.bool true] 143 (0,0))/\ai [] W w'/\W.heap.size<=s:=by
 go_enter Tryz.func19,Tryz.ntmps19
 go_wp2_with(go_in)
 go_ret2
 exact⟨_,rfl,heap_alloc_new _ _,(ai.refl _ _).alloc _,Nat.le_refl _⟩
theorem L6(W:World):Calls Tryz.prog 8 #[] W fun e w'=> ∃p m h hm bb r,e=.returned (aK p)/\SN w' p m h hm bb r/\ai [] W w'/\W.heap.size<=p/\W.heap.size<=m/\W.heap.size<=r:=by
 have hmm:= @run_makeMap Tryz.prog;have cR:=af (fun W=>Eh W);have cH:=af (fun W=>Rq W);have cB:=af (fun W=>JO W);go_enter Tryz.func8,Tryz.ntmps8
 go_wp2_with fail
 with_reducible refine(cR.out _).mono ?_
 rintro e w1 ⟨r,rfl,hR,aH,hr1⟩;change Hid _ at hR;replace aH:=af aH;go_wp2_with fail
 have hO2:=af (aH.out.alloc (.map #[] 0));have hM:=af (cu.made (enc:=bT) w1);have hR2:=af (((ai.refl [] w1).alloc (.map #[] 0)).heap hR.out (by simp));with_reducible refine(cH.out _).mono ?_
 rintro e w3 ⟨h,hm,rfl,hH,hO3⟩;have dY:=af (hM.out.own hO3 (by simp));have eP:=af (hO3.heap hR2.out (by simp));replace hO3:=af (hO2.out.trans hO3);replace hH:=af hH;clear hM hR2 hR;go_wp2_with fail
 with_reducible refine(cB.out _).mono ?_
 rintro e w4 ⟨bb,rfl,hB,hO4⟩;have Am:=af (dY.out.own hO4 (by simp));have oN:=af (hO4.heap eP.out (by simp));have hH4:=af (hH.out.own hO4);replace hO4:=af (hO3.out.trans hO4);change Hid _ at hB;clear dY eP hH;go_wp2_with fail
 go_ret
 have hA:=(ai.refl [] w4).alloc (.cells #[.map (some w1.heap.size),aK h,aK bb,aK r,.int .i64 0] 73);exact⟨_,_,_,_,_,_,rfl,⟨heap_alloc_new _ _,Am.out.own hA (by simp),hH4.out.own hA,hA.heap hB.out (by simp),hA.heap oN.out (by simp)⟩,hO4.out.trans hA,hO4.out.size,aH.out.size,hr1⟩
end Go.Proofs.YtedcakchekaemaaGreatDoor
namespace Go.Proofs.YtedcakchekaemaaGreatDoor
open Go.RowKit
variable [Kd]
def YD:SP:=⟨[],[],[],[],0⟩
theorem Hq(W:World):Calls Tryz.prog 21 #[] W fun e w'=> ∃s,e=.returned (aK s)/\w'.heap[s]?=some (.cells #[.slice none 0 0,.bool true] 150 (0,0))/\ai [] W w'/\W.heap.size<=s:=by
 go_enter Tryz.func21,Tryz.ntmps21
 go_wp2_with fail
 go_ret
 exact⟨_,rfl,heap_alloc_new _ _,(ai.refl _ _).alloc _,Nat.le_refl _⟩
theorem Qo{w:World}{r:Nat}(h:w.heap[r]?=some (.cells #[.int .i64 10,.slice none 0 0,.bool true] 143 (0,0))):ni w r 10 [r] []:=
 ⟨by simp,by simp,⟨by omega,by omega⟩,.slice none 0 0,[],⟨h,⟨⟨rfl,.inl ⟨rfl,rfl⟩⟩,by simp,by simp⟩,by simp[Value.ownBlock],by simp⟩,List.Perm.refl _,by simp,by simp[Value.ownBlock],by simp⟩
theorem V9{w:World}{b:Nat}(h:w.heap[b]?=some (.cells #[.slice none 0 0,.bool true] 150 (0,0))):jQ w b (.slice none 0 0) []:=
 ⟨h,Sl.nil _ _ _,by simp[Value.ownBlock],by simp⟩
def Ag(w:World)(e:Ending)(w':World):Prop:= ∃K:aU,e=.returned (aK K.p)/\bq w' K/\K.sp=YD/\ai [] w w'/\ ∀z∈K.feet,w.heap.size<=z
theorem Md{W w':World}{p m h hm bb r:Nat}(h0:W.heap.size<=r)(h1:r<m)(h2:m<h/\m<hm)(h4:h<bb/\hm<bb)(h5:bb<p)(hsp:w'.heap[p]?=some (.cells #[.map (some m),aK h,aK bb,aK r,.int .i64 0] 73 (0,0)))(hM:cu bT w' m [])(hH:jR w' h hm [])
  (hB:w'.heap[bb]?=some (.cells #[.slice none 0 0,.bool true] 150 (0,0)))(hR:w'.heap[r]?=some (.cells #[.int .i64 10,.slice none 0 0,.bool true] 143 (0,0)))(ho:ai [] W w'):Ag W (.returned (aK p)) w':=by
 have hl:=aj hsp;refine⟨⟨p,m,h,hm,bb,.slice none 0 0,r,[r],[],[],[],[],0⟩,rfl,⟨hsp,hM,by simp,hH,V9 hB,Qo hR,?_,?_,by simp,by simp,⟨Int.le_refl _,show(0:Int)<=1000000 by decide⟩⟩,rfl,ho,?_⟩
 ·simp only[aU.parts,List.map_nil,aZ,Value.ownBlock,Option.toList_none,List.pairwise_cons,List.mem_cons,List.not_mem_nil,or_false,Dj,forall_eq_or_imp,forall_eq,List.Pairwise.nil,and_true,false_implies,implies_true]
  simp;omega
 ·simp[aU.feet,aU.parts,aZ,Value.ownBlock]
  omega
 ·simp[aU.feet,aU.parts,aZ,Value.ownBlock]
  omega
theorem Me(W:World):Calls Tryz.prog 8 #[] W (Ag W):=by
 have hmm:= @run_makeMap Tryz.prog;have cR:=af (fun W=>Eh W);have cH:=af (fun W=>Pf W);have cB:=af (fun W=>Hq W);go_enter Tryz.func8,Tryz.ntmps8
 go_wp2_with fail
 with_reducible refine(cR.out _).mono ?_
 rintro e w1 ⟨r,rfl,hR,aH,hr1⟩;have hrl:=af (aj hR);change Hid _ at hR hr1;replace aH:=af aH;go_wp2_with fail
 have hO2:=af (aH.out.alloc (.map #[] 0));have hM:=af (cu.made (enc:=bT) w1);have hR2:=af (((ai.refl [] w1).alloc (.map #[] 0)).heap hR.out (by simp));with_reducible refine(cH.out _).mono ?_
 rintro e w3 ⟨h,hm,rfl,hH,hh1,hh2,hO3⟩;have dY:=af (hM.out.own hO3 (by simp));have eP:=af (hO3.heap hR2.out (by simp));replace hO3:=af (hO2.out.trans hO3);have hhl:=af hH.lt;replace hH:=af hH;have hhg:Hid (w1.heap.size<h/\w1.heap.size<hm):=af (by simp at hh1 hh2;omega);clear hM hR2 hR hh1 hh2;go_wp2_with fail
 with_reducible refine(cB.out _).mono ?_
 rintro e w4 ⟨bb,rfl,hB,hO4,hbb⟩;have Am:=af (dY.out.own hO4 (by simp));have oN:=af (hO4.heap eP.out (by simp));have hH4:=af (hH.out.own hO4 (by simp) (by simp));replace hO4:=af (hO3.out.trans hO4);have hbl:=af (aj hB);change Hid _ at hB hbb;clear dY eP hH;go_wp2_with fail
 go_ret
 have hA:=(ai.refl [] w4).alloc (.cells #[.map (some w1.heap.size),aK h,aK bb,aK r,.int .i64 0] 73);exact Md hr1.out hrl.out hhg.out (by have:=hhl.out;have:=hbb.out;omega) hbl.out (heap_alloc_new _ _) (Am.out.own hA (by simp)) (hH4.out.own hA (by simp) (by simp)) (hA.heap hB.out (by simp)) (hA.heap oN.out (by simp)) (hO4.out.trans hA)
def yE(S:SP)(w:World)(e:Ending)(w':World):Prop:= ∃v',e=.returned v'/\Sl 43 vL 2 w.heap.size w' v' (S.bi.map oZ)/\ai [] w w'
theorem XM(K:aU)(w:World)(H:bq w K):Calls Tryz.prog 12 #[aK K.p] w (yE K.sp w):=by
 obtain⟨c0,_,c2,_⟩:=H.c;have cN:=af (mZ K.p K.m w c0);have cB:=af (Pb K.bb K.bv K.bi w H.bi);unfold yE aU.sp;simp only;generalize K.bi.map oZ=LT at*;clear H;go_enter Tryz.func12,Tryz.ntmps12
 go_wp2_with(first
  |(go_at_call 22;((with_reducible refine cN.out.mono ?_);rintro e w2 ⟨rfl,rfl⟩))
  |(go_at_call 31;((with_reducible refine cB.out.mono ?_);rintro e w2 ⟨v',rfl,hS,hO⟩;replace hS:=af hS;replace hO:=af hO)))
 go_ret
 exact⟨_,rfl,hS.out,hO.out⟩
theorem Wd(K:aU)(w:World)(H:bq w K):Calls Tryz.prog 30 #[aK K.p] w fun e w'=>e=.returned (.int .i64 K.sp.asked)/\w=w':=Af w H.sp
end Go.Proofs.YtedcakchekaemaaGreatDoor
