/- Contracts of the program, part 25. -/
import Derived.Test.YtedcakchekaemaaGreatDoorMp24
import Derived.Test.YtedcakchekaemaaGreatDoorMp21
set_option maxRecDepth 100000
set_option maxHeartbeats 16000000
set_option linter.all false
namespace Go.Proofs.YtedcakchekaemaaGreatDoor
open Go.RowKit
variable [Kd]
theorem RQ(W0 w:World)(b:Nat)(p:Gw)(mv nv:Value)(L:List ByteArray×List ByteArray)(k v:Int)(t:ByteArray)(h:wB W0 w b p mv nv L.1 L.2)(hL:L.1.length<=256):
  Calls Tryz.prog 441 #[.pointer (some ⟨b,0,none⟩),.agg #[.int .i64 2,.int .i64 k,.int .u64 v,.string t]] w (lZ (dD L ⟨2,k,v,t⟩) W0 w b mv nv):=by
 have hms:dD L ⟨2,k,v,t⟩=if k=2 then some (L.1++[t],L.2)else none:=by simp[dD,kD]
 generalize dD L ⟨2,k,v,t⟩=R at hms⊢;have hA:=((ai.refl [] w).alloc (.cells #[.int .i64 2,.int .i64 k,.int .u64 v,.string t] 100)).alloc (.cells #[.string ⟨#[]⟩] 9);have hM1:=h.nil' hA;obtain⟨⟨a0,a1,a2,a3⟩,-⟩:=q4 (heap_alloc_new w (.cells #[.int .i64 2,.int .i64 k,.int .u64 v,.string t] 100));obtain⟨⟨d0,d1,d2,d3⟩,-⟩:=q4 (((ai.refl [] (w.alloc (.cells #[.int .i64 2,.int .i64 k,.int .u64 v,.string t] 100))).alloc (.cells #[.string ⟨#[]⟩] 9)).heap (heap_alloc_new w (.cells #[.int .i64 2,.int .i64 k,.int .u64 v,.string t] 100)) (by simp));have hsb:=heap_alloc2_new w (.cells #[.int .i64 2,.int .i64 k,.int .u64 v,.string t] 100) (.cells #[.string ⟨#[]⟩] 9);have cT:=gM ⟨2,k,v,t⟩ (w.heap.size+1) 0 (.string ⟨#[]⟩) _ (cell_of_row _ _ 0 _ _ _ hsb) (frozen_of_row _ _ 0 _ _ hsb);unfold fL at cT;simp only at cT;have hbw:=aj h.row;have wz:=hA.size;by_cases hok:k=2
 ·subst hok
  rw[if_pos rfl]at hms;unfold aP at cT;change Hid _ at hms hA hsb wz;replace cT:=af cT;replace hM1:=af hM1;have hl1:=af (show(L.1.length+[t].length)*16<=140737488355328 by simp only[List.length_singleton];omega);have hl2:=af (show L.1.length+[t].length<=maxLen by unfold maxLen;simp only[List.length_singleton];omega);have hl3:=af (show(L.1++[t]).length=L.1.length+1 by simp);have aaR: ∀g,mv.ownBlock=some g->g<w.heap.size:=fun g hg=>(h.m.block hg).2
  have aaS: ∀g,nv.ownBlock=some g->g<w.heap.size:=fun g hg=>(h.n.block hg).2
  obtain⟨ra,rc,rfl⟩:=h.m.sl;clear h;go_enter Tryz.func441,Tryz.ntmps441
  go_wp2_with fail
  refine cT.out.mono ?_;rintro e w2 ⟨rfl,hSt⟩;have hO2:ai [] w w2:=hA.out.trans' hSt.own (fun x hx=>.inr (by simp at hx;omega));have hM2:wB W0 w2 b p (.slice ra L.1.length rc) nv L.1 L.2:=by
   have hb2:=hM1.out;have hsz1:W0.heap.size<=w.heap.size+1:=by have:=hb2.base;omega
   exact⟨hb2.own.trans' hSt.own (fun x hx=>.inr (by simp at hx;omega)),hSt.own.heap hb2.row (by simp;omega),hb2.base,hb2.m.own hSt.own (fun g hg=>by have:=(aaR g hg);simp;omega),hb2.n.own hSt.own (fun g hg=>by have:=(aaS g hg);simp;omega),hb2.rm,hb2.rn,hb2.ap⟩
  have hs2:=hSt.row _ _ hsb.out;have zZ:w.heap.size<=w2.heap.size:=hO2.size;change Hid _ at zZ;replace hO2:=af hO2;replace hM2:=af hM2;clear cT hA hM1 hSt hsb wz hbw;go_wp2_with fail
  clear a0 a1 a2 a3 d0 d1 d2 d3;generalize UM:w.heap.size+1=sb at*;change Hid _ at UM;have hD:=hM2.out.nil' ((ai.refl [] w2).drew);obtain⟨p5,_⟩:=hD.cell 5 (u:=.slice ra L.1.length rc) rfl;have x0:w2.drew.cell? ⟨sb,0,none⟩=some (.string t):=cell_of_row _ _ 0 _ _ _ ((ai.refl [] w2).drew.heap hs2 (by simp));have J8:=hM2.out.nil' (((ai.refl [] w2).alloc (.cells #[.string t] 9)).drew);obtain⟨q5,_⟩:=J8.cell 5 (u:=.slice ra L.1.length rc) rfl;have x1:((w2.alloc (.cells #[.string t] 9)).drew).cell? ⟨sb,0,none⟩=some (.string t):=cell_of_row _ _ 0 _ _ _ ((((ai.refl [] w2).alloc (.cells #[.string t] 9)).drew).heap hs2 (by simp));have mR:=af ((aG.new (enc:=Du) (T:=9) w2 t 1).nil' ((ai.refl [] _).drew));replace J8:=af J8;simp only[Du]at mR;clear hD hs2;go_region_law((go_loud(refine eX rfl (.tmp 43) (.tmp 45) (by rfl) Cy J8.out.own (by rfl) J8.out.m (by rfl) mR.out hl1.out hl2.out ?_);intro va w5 hS5 hqq hg5 iD;obtain⟨a5,c5,rfl⟩:=hS5.sl;rw[hl3.out]at hS5 hg5⊢;obtain⟨⟨kC,f5⟩,pF⟩:=J8.out.addM hS5 iD hg5;have hOb:Hid (ai (b::((Value.slice ra L.1.length rc).ownBlock.toList++nv.ownBlock.toList)) w (w5.setCell ⟨b,5,none⟩ (.slice a5 (L.1.length+1) c5))):=af ((((hO2.out.nil.trans (((ai.refl [] w2).alloc _).drew.nil)).trans (iD.mono (by intro x hx;exact List.mem_cons_of_mem _ (List.mem_append_left _ hx)))).setCell (.inl (by simp)) _));have hgb:Hid (∀g,(Value.slice a5 (L.1.length+1) c5).ownBlock=some g->(Value.slice ra L.1.length rc).ownBlock=some g\/w.heap.size<=g):=af (fun g hg=>(hg5 g hg).imp id (fun h4=>Nat.le_trans zZ.out (Nat.le_trans ((ai.refl [] w2).alloc _).size h4)));replace pF:=af pF;clear hS5 hg5 iD hqq))
  all_goals
   go_wp2_with fail
   go_ret
   exact Bu hms.out pF.out hOb.out hgb.out (fun g hg=>.inl hg)
 ·rw[if_neg hok]at hms
  have hb:(k==2)=false:=by simpa using hok
  rw[hb]at cT;unfold aP at cT;change Hid _ at hms;replace cT:=af cT;replace hM1:=af hM1;clear hA h hok hb hsb wz;go_enter Tryz.func441,Tryz.ntmps441
  go_wp2_with fail
  refine cT.out.mono ?_;rintro e w2 ⟨⟨ec,aD,rfl⟩,hO⟩;have q:(ec==0)=false:=by simpa using aD
  have hO2:=af (hM1.out.own.trans hO);change Hid _ at aD;clear hO;go_wp2_with fail
  go_ret
  exact zK hms.out aD.out hO2.out
theorem RS(W0 w:World)(b:Nat)(p:Gw)(mv nv:Value)(L:List ByteArray×List ByteArray)(k v:Int)(t:ByteArray)(h:wB W0 w b p mv nv L.1 L.2)(hL:L.2.length<=256):
  Calls Tryz.prog 441 #[.pointer (some ⟨b,0,none⟩),.agg #[.int .i64 3,.int .i64 k,.int .u64 v,.string t]] w (lZ (dD L ⟨3,k,v,t⟩) W0 w b mv nv):=by
 have hms:dD L ⟨3,k,v,t⟩=if k=2 then some (L.1,L.2++[t])else none:=by simp[dD,kD]
 generalize dD L ⟨3,k,v,t⟩=R at hms⊢;have hA:=((ai.refl [] w).alloc (.cells #[.int .i64 3,.int .i64 k,.int .u64 v,.string t] 100)).alloc (.cells #[.string ⟨#[]⟩] 9);have hM1:=h.nil' hA;obtain⟨⟨a0,a1,a2,a3⟩,-⟩:=q4 (heap_alloc_new w (.cells #[.int .i64 3,.int .i64 k,.int .u64 v,.string t] 100));obtain⟨⟨d0,d1,d2,d3⟩,-⟩:=q4 (((ai.refl [] (w.alloc (.cells #[.int .i64 3,.int .i64 k,.int .u64 v,.string t] 100))).alloc (.cells #[.string ⟨#[]⟩] 9)).heap (heap_alloc_new w (.cells #[.int .i64 3,.int .i64 k,.int .u64 v,.string t] 100)) (by simp));have hsb:=heap_alloc2_new w (.cells #[.int .i64 3,.int .i64 k,.int .u64 v,.string t] 100) (.cells #[.string ⟨#[]⟩] 9);have cT:=gM ⟨3,k,v,t⟩ (w.heap.size+1) 0 (.string ⟨#[]⟩) _ (cell_of_row _ _ 0 _ _ _ hsb) (frozen_of_row _ _ 0 _ _ hsb);unfold fL at cT;simp only at cT;have hbw:=aj h.row;have wz:=hA.size;by_cases hok:k=2
 ·subst hok
  rw[if_pos rfl]at hms;unfold aP at cT;change Hid _ at hms hA hsb wz;replace cT:=af cT;replace hM1:=af hM1;have hl1:=af (show(L.2.length+[t].length)*16<=140737488355328 by simp only[List.length_singleton];omega);have hl2:=af (show L.2.length+[t].length<=maxLen by unfold maxLen;simp only[List.length_singleton];omega);have hl3:=af (show(L.2++[t]).length=L.2.length+1 by simp);have aaR: ∀g,mv.ownBlock=some g->g<w.heap.size:=fun g hg=>(h.m.block hg).2
  have aaS: ∀g,nv.ownBlock=some g->g<w.heap.size:=fun g hg=>(h.n.block hg).2
  obtain⟨ra,rc,rfl⟩:=h.n.sl;clear h;go_enter Tryz.func441,Tryz.ntmps441
  go_wp2_with fail
  refine cT.out.mono ?_;rintro e w2 ⟨rfl,hSt⟩;have hO2:ai [] w w2:=hA.out.trans' hSt.own (fun x hx=>.inr (by simp at hx;omega));have hM2:wB W0 w2 b p mv (.slice ra L.2.length rc) L.1 L.2:=by
   have hb2:=hM1.out;have hsz1:W0.heap.size<=w.heap.size+1:=by have:=hb2.base;omega
   exact⟨hb2.own.trans' hSt.own (fun x hx=>.inr (by simp at hx;omega)),hSt.own.heap hb2.row (by simp;omega),hb2.base,hb2.m.own hSt.own (fun g hg=>by have:=(aaR g hg);simp;omega),hb2.n.own hSt.own (fun g hg=>by have:=(aaS g hg);simp;omega),hb2.rm,hb2.rn,hb2.ap⟩
  have hs2:=hSt.row _ _ hsb.out;have zZ:w.heap.size<=w2.heap.size:=hO2.size;change Hid _ at zZ;replace hO2:=af hO2;replace hM2:=af hM2;clear cT hA hM1 hSt hsb wz hbw;go_wp2_with fail
  clear a0 a1 a2 a3 d0 d1 d2 d3;generalize UM:w.heap.size+1=sb at*;change Hid _ at UM;have hD:=hM2.out.nil' ((ai.refl [] w2).drew);obtain⟨p5,_⟩:=hD.cell 6 (u:=.slice ra L.2.length rc) rfl;have x0:w2.drew.cell? ⟨sb,0,none⟩=some (.string t):=cell_of_row _ _ 0 _ _ _ ((ai.refl [] w2).drew.heap hs2 (by simp));have J8:=hM2.out.nil' (((ai.refl [] w2).alloc (.cells #[.string t] 9)).drew);obtain⟨q5,_⟩:=J8.cell 6 (u:=.slice ra L.2.length rc) rfl;have x1:((w2.alloc (.cells #[.string t] 9)).drew).cell? ⟨sb,0,none⟩=some (.string t):=cell_of_row _ _ 0 _ _ _ ((((ai.refl [] w2).alloc (.cells #[.string t] 9)).drew).heap hs2 (by simp));have mR:=af ((aG.new (enc:=Du) (T:=9) w2 t 1).nil' ((ai.refl [] _).drew));replace J8:=af J8;simp only[Du]at mR;clear hD hs2;go_region_law((go_loud(refine eX rfl (.tmp 59) (.tmp 61) (by rfl) Cy J8.out.own (by rfl) J8.out.n (by rfl) mR.out hl1.out hl2.out ?_);intro va w5 hS5 hqq hg5 iD;obtain⟨a5,c5,rfl⟩:=hS5.sl;rw[hl3.out]at hS5 hg5⊢;obtain⟨⟨kC,f5⟩,pF⟩:=J8.out.addN hS5 iD hg5;have hOb:Hid (ai (b::(mv.ownBlock.toList++(Value.slice ra L.2.length rc).ownBlock.toList)) w (w5.setCell ⟨b,6,none⟩ (.slice a5 (L.2.length+1) c5))):=af ((((hO2.out.nil.trans (((ai.refl [] w2).alloc _).drew.nil)).trans (iD.mono (by intro x hx;exact List.mem_cons_of_mem _ (List.mem_append_right _ hx)))).setCell (.inl (by simp)) _));have hgb:Hid (∀g,(Value.slice a5 (L.2.length+1) c5).ownBlock=some g->(Value.slice ra L.2.length rc).ownBlock=some g\/w.heap.size<=g):=af (fun g hg=>(hg5 g hg).imp id (fun h4=>Nat.le_trans zZ.out (Nat.le_trans ((ai.refl [] w2).alloc _).size h4)));replace pF:=af pF;clear hS5 hg5 iD hqq))
  all_goals
   go_wp2_with fail
   go_ret
   exact Bu hms.out pF.out hOb.out (fun g hg=>.inl hg) hgb.out
 ·rw[if_neg hok]at hms
  have hb:(k==2)=false:=by simpa using hok
  rw[hb]at cT;unfold aP at cT;change Hid _ at hms;replace cT:=af cT;replace hM1:=af hM1;clear hA h hok hb hsb wz;go_enter Tryz.func441,Tryz.ntmps441
  go_wp2_with fail
  refine cT.out.mono ?_;rintro e w2 ⟨⟨ec,aD,rfl⟩,hO⟩;have q:(ec==0)=false:=by simpa using aD
  have hO2:=af (hM1.out.own.trans hO);change Hid _ at aD;clear hO;go_wp2_with fail
  go_ret
  exact zK hms.out aD.out hO2.out
theorem FC(W0 w:World)(b:Nat)(p:Gw)(mv nv:Value)(L:List ByteArray×List ByteArray)(f:bN)(h:wB W0 w b p mv nv L.1 L.2)(h1:f.num≠1)(h2:f.num≠2)(h3:f.num≠3)(h4:f.num≠4)(h5:f.num≠5):
  Calls Tryz.prog 441 #[.pointer (some ⟨b,0,none⟩),.agg (fL f).toArray] w (lZ (dD L f) W0 w b mv nv):=by
 have ht:kD f=true:=by unfold kD;rw[if_neg (by omega),if_neg h5]
 have hms:dD L f=some L:=by unfold dD;rw[if_pos ht,if_neg h2,if_neg h3]
 generalize dD L f=R at hms⊢;obtain⟨n,k,v,t⟩:=f;simp only at h1 h2 h3 h4 h5;unfold fL;have hA:=((ai.refl [] w).alloc (.cells #[.int .i64 n,.int .i64 k,.int .u64 v,.string t] 100)).alloc (.cells #[.string ⟨#[]⟩] 9);have hM:=af (h.nil' hA);have hO:=af (hA.nil (S:=b::(mv.ownBlock.toList++nv.ownBlock.toList)));obtain⟨⟨a0,a1,a2,a3⟩,-⟩:=q4 (heap_alloc_new w (.cells #[.int .i64 n,.int .i64 k,.int .u64 v,.string t] 100));obtain⟨⟨d0,d1,d2,d3⟩,-⟩:=q4 (((ai.refl [] (w.alloc (.cells #[.int .i64 n,.int .i64 k,.int .u64 v,.string t] 100))).alloc (.cells #[.string ⟨#[]⟩] 9)).heap (heap_alloc_new w (.cells #[.int .i64 n,.int .i64 k,.int .u64 v,.string t] 100)) (by simp));have q1:(n==1)=false:=by simpa using h1
 have q2:(n==2)=false:=by simpa using h2
 have q3:(n==3)=false:=by simpa using h3
 have q4:(n==4)=false:=by simpa using h4
 have q5:(n==5)=false:=by simpa using h5
 change Hid _ at hms;clear h hA h1 h2 h3 h4 h5;go_enter Tryz.func441,Tryz.ntmps441
 go_wp2_with fail
 go_ret
 exact Bu hms.out hM.out hO.out (fun g hg=>.inl hg) (fun g hg=>.inl hg)
theorem Jk(W0 w:World)(b:Nat)(p:Gw)(mv nv:Value)(L:List ByteArray×List ByteArray)(f:bN)(h:wB W0 w b p mv nv L.1 L.2)(hL1:L.1.length<=256)(hL2:L.2.length<=256):
  Calls Tryz.prog 441 #[.pointer (some ⟨b,0,none⟩),.agg (fL f).toArray] w (lZ (dD L f) W0 w b mv nv):=by
 by_cases h1:f.num=1
 ·obtain⟨n,k,v,t⟩:=f
  simp only at h1;subst h1;exact RN W0 w b p mv nv L k v t h
 by_cases h2:f.num=2
 ·obtain⟨n,k,v,t⟩:=f
  simp only at h2;subst h2;exact RQ W0 w b p mv nv L k v t h hL1
 by_cases h3:f.num=3
 ·obtain⟨n,k,v,t⟩:=f
  simp only at h3;subst h3;exact RS W0 w b p mv nv L k v t h hL2
 by_cases h4:f.num=4
 ·obtain⟨n,k,v,t⟩:=f
  simp only at h4;subst h4;exact RO W0 w b p mv nv L k v t h
 by_cases h5:f.num=5
 ·obtain⟨n,k,v,t⟩:=f
  simp only at h5;subst h5;exact RP W0 w b p mv nv L k v t h
 exact FC W0 w b p mv nv L f h h1 h2 h3 h4 h5
def rP(x:MT)(s1 s2 s3 s4:Sh):Array Value:=#[.string x.m.name,.bool x.m.has,.int .u64 x.m.al,.int .u64 x.m.time,.int .u32 x.m.ty,.bool x.m.hist,.bool x.m.trans,.bool x.m.null,.slice s1.a s1.n s1.c,.slice s2.a s2.n s2.c,.int .i64 x.m.v.k,.int .u64 x.m.v.n,.string x.m.v.s,.slice s3.a s3.n s3.c,.slice s4.a s4.n s4.c,.string x.mta',.bool x.told,.string x.props,.string x.big]
def xU(w:World)(b:Nat)(x:MT)(s1 s2 s3 s4:Sh):Prop:=w.heap[b]?=some (.cells (rP x s1 s2 s3 s4) 378 (0,0))
def Sh.nil:Sh:=⟨none,0,0⟩
theorem bO.e{w:World}{b:Nat}{x:MT}(h:bO w b x):xU w b x Sh.nil Sh.nil Sh.nil Sh.nil:=h
theorem xU.own{S:List Nat}{w w':World}{b:Nat}{x:MT}{s1 s2 s3 s4:Sh}(h:xU w b x s1 s2 s3 s4)(ho:ai S w w')(hb:b∉S):xU w' b x s1 s2 s3 s4:=ai.heap ho h hb
theorem xU.cell{w:World}{b:Nat}{x:MT}{s1 s2 s3 s4:Sh}(h:xU w b x s1 s2 s3 s4)(i:Nat){u:Value}(hu:(rP x s1 s2 s3 s4)[i]?=some u):w.cell? ⟨b,i,none⟩=some u/\w.frozen? ⟨b,i,none⟩=false:=
 ⟨by rw[cell_of_row _ _ _ _ _ _ h];exact hu,frozen_of_row _ b i _ _ h⟩
theorem xU.set{w:World}{b:Nat}{x:MT}{s1 s2 s3 s4 t1 t2 t3 t4:Sh}(h:xU w b x s1 s2 s3 s4)(i:Nat)(u:Value)(hx:(rP x s1 s2 s3 s4).setIfInBounds i u=rP x t1 t2 t3 t4):xU (w.setCell ⟨b,i,none⟩ u) b x t1 t2 t3 t4/\ai [b] w (w.setCell ⟨b,i,none⟩ u):=by
 have h1:=heap_setCell_same w b i _ _ u h;rw[hx]at h1;exact⟨h1,(ai.refl [b] w).setCell (.inl (by simp)) _⟩
def CV(ok:Bool)(w:World)(b:Nat)(x:MT)(s1 s2:Sh)(e:Ending)(w':World):Prop:=
 match ok with
 |true=>e=.returned (.int .i64 0)/\(∃t3 t4,xU w' b x s1 s2 t3 t4)/\ai [b] w w'
 |false=>(∃ec:Int,ec≠0/\e=.returned (.int .i64 ec))/\ai [b] w w'
theorem Nt(w:World)(b:Nat)(x:MT)(s1 s2 s3 s4:Sh)(deep:Int)(h:xU w b x s1 s2 s3 s4)(h8:x.m.v.k≠8)(h9:x.m.v.k≠9):
  Calls Tryz.prog 384 #[.pointer (some ⟨b,0,none⟩),.int .i64 deep] w (CV true w b x s1 s2):=by
 obtain⟨c10,_⟩:=h.cell 10 (u:=.int .i64 x.m.v.k) rfl;have q8:(x.m.v.k==8)=false:=by simpa using h8
 have q9:(x.m.v.k==9)=false:=by simpa using h9
 change Hid _ at h;clear h8 h9;go_enter Tryz.func384,Tryz.ntmps384
 go_wp2_with fail
 go_ret
 exact⟨rfl,⟨s3,s4,h.out⟩,ai.refl _ _⟩
theorem RU(w:World)(b:Nat)(x:MT)(s1 s2 s3 s4:Sh)(deep:Int)(h:xU w b x s1 s2 s3 s4)(h8:x.m.v.k=8)(hs:x.big.size<=4096)(hK:aS w):
  Calls Tryz.prog 384 #[.pointer (some ⟨b,0,none⟩),.int .i64 deep] w (CV (Ak (ak x.big)) w b x s1 s2):=by
 obtain⟨c10,_⟩:=h.cell 10 (u:=.int .i64 x.m.v.k) rfl;obtain⟨c18,_⟩:=h.cell 18 (u:=.string x.big) rfl;rw[h8]at c10;obtain⟨w1,c,hcv,aL,cD⟩:=RG x.big w hs hK;obtain⟨ok,hok⟩: ∃ok,Ak (ak x.big)=ok:=⟨_,rfl⟩;rw[hok]at cD⊢;replace cD:=af cD;replace h:=af h;clear hok aL hK h8;go_enter Tryz.func384,Tryz.ntmps384
 go_wp2_with fail
 refine cD.out.mono ?_;intro e w2 hp;clear hcv;cases ok with
 |true=>
  obtain⟨⟨a1,n1,k1,a2,n2,k2,a3,n3,k3,rfl⟩,hO⟩:=hp;have hB:=(ai.refl [] w2).alloc (.cells #[.slice a1 n1 k1,.slice a2 n2 k2,.slice a3 n3 k3] 244);obtain⟨⟨d0,d1,d2⟩,-⟩:=q3 (heap_alloc_new w2 (.cells #[.slice a1 n1 k1,.slice a2 n2 k2,.slice a3 n3 k3] 244));have h2:=h.out.own hO (by simp);have hb2:=aj h2;obtain⟨e13,z13⟩:=h2.cell 13 (u:=.slice s3.a s3.n s3.c) rfl;obtain⟨f13,y13⟩:=(h2.own hB (by simp)).cell 13 (u:=.slice s3.a s3.n s3.c) rfl;replace h2:=af h2;replace hO:=af hO;clear cD h hB;go_wp2_with fail
  go_ret
  obtain⟨hE,jo⟩:=h2.out.set (t1:=s1) (t2:=s2) (t3:=⟨some ⟨w2.heap.size+1,0,none⟩,1,1⟩) (t4:=s4) 13 (.slice (some ⟨w2.heap.size+1,0,none⟩) 1 1) rfl;exact⟨rfl,⟨_,_,(hE.own ((ai.refl [] _).alloc _) (by simp)).own ((ai.refl [] _).alloc _) (by simp)⟩,((hO.out.nil.trans jo).alloc _).alloc _⟩
 |false=>
  obtain⟨⟨ec,aD,rfl⟩,hO⟩:=hp;have hB:=(ai.refl [] w2).alloc (.cells #[.slice none 0 0,.slice none 0 0,.slice none 0 0] 244);obtain⟨⟨d0,d1,d2⟩,-⟩:=q3 (heap_alloc_new w2 (.cells #[.slice none 0 0,.slice none 0 0,.slice none 0 0] 244));have h2:=h.out.own hO (by simp);have hb2:=aj h2;obtain⟨e13,z13⟩:=h2.cell 13 (u:=.slice s3.a s3.n s3.c) rfl;obtain⟨f13,y13⟩:=(h2.own hB (by simp)).cell 13 (u:=.slice s3.a s3.n s3.c) rfl;change Hid _ at aD;replace h2:=af h2;replace hO:=af hO;clear cD h hB;go_wp2_with fail
  go_ret
  obtain⟨hE,jo⟩:=h2.out.set (t1:=s1) (t2:=s2) (t3:=⟨some ⟨w2.heap.size+1,0,none⟩,1,1⟩) (t4:=s4) 13 (.slice (some ⟨w2.heap.size+1,0,none⟩) 1 1) rfl;exact⟨⟨ec,aD.out,rfl⟩,((hO.out.nil.trans jo).alloc _).alloc _⟩
def CW(ok:Bool)(w:World)(e:Ending)(w':World):Prop:=
 match ok with
 |true=>(∃z1 z2 z3 a1 n1 k1 a2 n2 k2,e=.returned (.tuple #[.agg #[.string z1,.string z2,.bool z3,.slice a1 n1 k1,.slice a2 n2 k2],.int .i64 0]))/\ai [] w w'
 |false=>(∃z1 z2 z3 a1 n1 k1 a2 n2 k2,∃ec:Int,ec≠0/\e=.returned (.tuple #[.agg #[.string z1,.string z2,.bool z3,.slice a1 n1 k1,.slice a2 n2 k2],.int .i64 ec]))/\ai [] w w'
def FD(g:List Int->Bool)(deep:Int):Prop:= ∀(t:ByteArray) (W:World),t.size<=4096->aS W->Calls Tryz.prog 393 #[.string t,.int .i64 deep] W (CW (g (ak t)) W)
theorem Jl(g:List Int->Bool)(w:World)(b:Nat)(x:MT)(s1 s2 s3 s4:Sh)(deep:Int)(h:xU w b x s1 s2 s3 s4)(h9:x.m.v.k=9)(hs:x.big.size<=4096)(hK:aS w)(hd:0<=deep/\deep<=100)(IH:FD g (deep+1)):
  Calls Tryz.prog 384 #[.pointer (some ⟨b,0,none⟩),.int .i64 deep] w (CV (g (ak x.big)) w b x s1 s2):=by
 obtain⟨c10,_⟩:=h.cell 10 (u:=.int .i64 x.m.v.k) rfl;obtain⟨c18,_⟩:=h.cell 18 (u:=.string x.big) rfl;rw[h9]at c10;have cD:=IH x.big w hs hK;have hwd:IntKind.i64.wrap (deep+1)=deep+1:=IntWalk.i64_in _ (by omega);obtain⟨ok,hok⟩: ∃ok,g (ak x.big)=ok:=⟨_,rfl⟩;rw[hok]at cD⊢;replace cD:=af cD;replace h:=af h;clear hok hK h9 IH hd;go_enter Tryz.func384,Tryz.ntmps384
 go_wp2_with fail
 refine cD.out.mono ?_;intro e w2 hp;cases ok with
 |true=>
  obtain⟨⟨z1,z2,z3,a1,n1,k1,a2,n2,k2,rfl⟩,hO⟩:=hp;have hB:=(ai.refl [] w2).alloc (.cells #[.string z1,.string z2,.bool z3,.slice a1 n1 k1,.slice a2 n2 k2] 249);have hr:=heap_alloc_new w2 (.cells #[.string z1,.string z2,.bool z3,.slice a1 n1 k1,.slice a2 n2 k2] 249);have d0:(w2.alloc (.cells #[.string z1,.string z2,.bool z3,.slice a1 n1 k1,.slice a2 n2 k2] 249)).cell? ⟨w2.heap.size,0,none⟩=some (.string z1):=cell_of_row _ _ 0 _ _ _ hr;have d1:(w2.alloc (.cells #[.string z1,.string z2,.bool z3,.slice a1 n1 k1,.slice a2 n2 k2] 249)).cell? ⟨w2.heap.size,1,none⟩=some (.string z2):=cell_of_row _ _ 1 _ _ _ hr;have d2:(w2.alloc (.cells #[.string z1,.string z2,.bool z3,.slice a1 n1 k1,.slice a2 n2 k2] 249)).cell? ⟨w2.heap.size,2,none⟩=some (.bool z3):=cell_of_row _ _ 2 _ _ _ hr;have d3:(w2.alloc (.cells #[.string z1,.string z2,.bool z3,.slice a1 n1 k1,.slice a2 n2 k2] 249)).cell? ⟨w2.heap.size,3,none⟩=some (.slice a1 n1 k1):=cell_of_row _ _ 3 _ _ _ hr;have d4:(w2.alloc (.cells #[.string z1,.string z2,.bool z3,.slice a1 n1 k1,.slice a2 n2 k2] 249)).cell? ⟨w2.heap.size,4,none⟩=some (.slice a2 n2 k2):=cell_of_row _ _ 4 _ _ _ hr;have h2:=h.out.own hO (by simp);have hb2:=aj h2;obtain⟨e14,z14⟩:=h2.cell 14 (u:=.slice s4.a s4.n s4.c) rfl;obtain⟨f14,y14⟩:=(h2.own hB (by simp)).cell 14 (u:=.slice s4.a s4.n s4.c) rfl;replace h2:=af h2;replace hO:=af hO;clear cD h hB hr;go_wp2_with fail
  go_ret
  obtain⟨hE,jo⟩:=h2.out.set (t1:=s1) (t2:=s2) (t3:=s3) (t4:=⟨some ⟨w2.heap.size+1,0,none⟩,1,1⟩) 14 (.slice (some ⟨w2.heap.size+1,0,none⟩) 1 1) rfl;exact⟨rfl,⟨_,_,(hE.own ((ai.refl [] _).alloc _) (by simp)).own ((ai.refl [] _).alloc _) (by simp)⟩,((hO.out.nil.trans jo).alloc _).alloc _⟩
 |false=>
  obtain⟨⟨z1,z2,z3,a1,n1,k1,a2,n2,k2,ec,aD,rfl⟩,hO⟩:=hp;have hB:=(ai.refl [] w2).alloc (.cells #[.string z1,.string z2,.bool z3,.slice a1 n1 k1,.slice a2 n2 k2] 249);have hr:=heap_alloc_new w2 (.cells #[.string z1,.string z2,.bool z3,.slice a1 n1 k1,.slice a2 n2 k2] 249);have d0:(w2.alloc (.cells #[.string z1,.string z2,.bool z3,.slice a1 n1 k1,.slice a2 n2 k2] 249)).cell? ⟨w2.heap.size,0,none⟩=some (.string z1):=cell_of_row _ _ 0 _ _ _ hr;have d1:(w2.alloc (.cells #[.string z1,.string z2,.bool z3,.slice a1 n1 k1,.slice a2 n2 k2] 249)).cell? ⟨w2.heap.size,1,none⟩=some (.string z2):=cell_of_row _ _ 1 _ _ _ hr;have d2:(w2.alloc (.cells #[.string z1,.string z2,.bool z3,.slice a1 n1 k1,.slice a2 n2 k2] 249)).cell? ⟨w2.heap.size,2,none⟩=some (.bool z3):=cell_of_row _ _ 2 _ _ _ hr;have d3:(w2.alloc (.cells #[.string z1,.string z2,.bool z3,.slice a1 n1 k1,.slice a2 n2 k2] 249)).cell? ⟨w2.heap.size,3,none⟩=some (.slice a1 n1 k1):=cell_of_row _ _ 3 _ _ _ hr;have d4:(w2.alloc (.cells #[.string z1,.string z2,.bool z3,.slice a1 n1 k1,.slice a2 n2 k2] 249)).cell? ⟨w2.heap.size,4,none⟩=some (.slice a2 n2 k2):=cell_of_row _ _ 4 _ _ _ hr;have h2:=h.out.own hO (by simp);have hb2:=aj h2;obtain⟨e14,z14⟩:=h2.cell 14 (u:=.slice s4.a s4.n s4.c) rfl;obtain⟨f14,y14⟩:=(h2.own hB (by simp)).cell 14 (u:=.slice s4.a s4.n s4.c) rfl;change Hid _ at aD;replace h2:=af h2;replace hO:=af hO;clear cD h hB hr;go_wp2_with fail
  go_ret
  obtain⟨hE,jo⟩:=h2.out.set (t1:=s1) (t2:=s2) (t3:=s3) (t4:=⟨some ⟨w2.heap.size+1,0,none⟩,1,1⟩) 14 (.slice (some ⟨w2.heap.size+1,0,none⟩) 1 1) rfl;exact⟨⟨ec,aD.out,rfl⟩,((hO.out.nil.trans jo).alloc _).alloc _⟩
theorem FH(g:List Int->Bool)(w:World)(b:Nat)(x:MT)(s1 s2 s3 s4:Sh)(deep:Int)(h:xU w b x s1 s2 s3 s4)(hs:x.big.size<=4096)(hK:aS w)(hd:0<=deep/\deep<=100)(IH:FD g (deep+1)):
  Calls Tryz.prog 384 #[.pointer (some ⟨b,0,none⟩),.int .i64 deep] w (CV (if x.m.v.k=8 then Ak (ak x.big)else if x.m.v.k=9 then g (ak x.big)else true) w b x s1 s2):=by
 by_cases h8:x.m.v.k=8
 ·rw[if_pos h8];exact RU w b x s1 s2 s3 s4 deep h h8 hs hK
 ·rw[if_neg h8]
  by_cases h9:x.m.v.k=9
  ·rw[if_pos h9];exact Jl g w b x s1 s2 s3 s4 deep h h9 hs hK hd IH
  ·rw[if_neg h9];exact Nt w b x s1 s2 s3 s4 deep h h8 h9
theorem aS.own'{S:List Nat}{w w':World}(h:aS w)(ho:ai S w w')(hn:5∉S):aS w':=fun k hk=>(ho.cell (block_lt_of_cell (h k hk)) hn).trans (h k hk)
def Ao(g:List Int->Bool)(x:MT):Bool:=if x.m.v.k=8 then Ak (ak x.big)else if x.m.v.k=9 then g (ak x.big)else true
def zM(ok:Bool)(w:World)(b:Nat)(x:MT)(e:Ending)(w':World):Prop:=
 match ok with
 |true=>e=.returned (.int .i64 0)/\(∃t1 t2 t3 t4,xU w' b x t1 t2 t3 t4)/\ai [b] w w'
 |false=>(∃ec:Int,ec≠0/\e=.returned (.int .i64 ec))/\ai [b] w w'
theorem CZ(g:List Int->Bool)(w:World)(b:Nat)(x:MT)(s1 s2 s3 s4:Sh)(deep:Int)(h:xU w b x s1 s2 s3 s4)(ht:x.told=false)(hp:x.props.size<=4096)(hs:x.big.size<=4096)(hK:aS w)(hd:0<=deep/\deep<=100)(hbk:5≠b)(IH:FD g (deep+1)):
  Calls Tryz.prog 380 #[.pointer (some ⟨b,0,none⟩),.int .i64 deep] w (zM (qK 8 (ak x.props)&&Ao g x) w b x):=by
 obtain⟨c16,_⟩:=h.cell 16 (u:=.bool x.told) rfl;obtain⟨c17,_⟩:=h.cell 17 (u:=.string x.props) rfl;rw[ht]at c16;obtain⟨w1,c,hcv,aL,cP⟩:=KJ x.props w hp hK;have cV:=fun W t2 (hW:xU W b x s1 t2 s3 s4) (hKW:aS W)=>FH g W b x s1 t2 s3 s4 deep hW hs hKW hd IH
 have hKo:=fun W' (ho:ai [b] w W')=>hK.own' ho (by simpa using hbk)
 change Hid _ at cV hK hKo;replace cP:=af cP;replace h:=af h;generalize qK 8 (ak x.props)=po at*;change Calls _ _ _ _ (zM (po&&Ao g x) w b x);have X3:(if x.m.v.k=8 then Ak (ak x.big)else if x.m.v.k=9 then g (ak x.big)else true)=Ao g x:=rfl;rw[X3]at cV;generalize Ao g x=vo at*;clear aL ht IH hd X3;go_enter Tryz.func380,Tryz.ntmps380
 go_wp2_with fail
 refine cP.out.mono ?_;intro e w2 hp2;clear hcv cP;cases po with
 |false=>
  obtain⟨⟨ec,aD,rfl⟩,hO⟩:=hp2;have h2:=h.out.own hO (by simp);obtain⟨e9,z9⟩:=h2.cell 9 (u:=.slice s2.a s2.n s2.c) rfl;have qJ:=af ((hO.nil (S:=[b])).setCell (p:=⟨b,9,none⟩) (.inl (by simp)) (.slice none 0 0));have q:(ec !=0)=true:=by simpa using aD
  change Hid _ at aD;clear h2 hO h cV;go_wp2_with fail
  go_ret
  exact⟨⟨ec,aD.out,rfl⟩,qJ.out⟩
 |true=>
  obtain⟨⟨a2,n2,k2,rfl⟩,hO⟩:=hp2;have h2:=h.out.own hO (by simp);obtain⟨e9,z9⟩:=h2.cell 9 (u:=.slice s2.a s2.n s2.c) rfl;obtain⟨hE,jo⟩:=h2.set (t1:=s1) (t2:=⟨a2,n2,k2⟩) (t3:=s3) (t4:=s4) 9 (.slice a2 n2 k2) rfl;have hK2:aS (w2.setCell ⟨b,9,none⟩ (.slice a2 n2 k2)):=hKo.out _ ((hO.nil (S:=[b])).trans jo);have cV2:=af (cV.out _ ⟨a2,n2,k2⟩ hE hK2);have qJ:=af ((hO.nil (S:=[b])).trans jo);clear h2 hO h cV hE jo hK2;go_wp2_with fail
  refine cV2.out.mono ?_;intro e w3 hp3;cases vo with
  |true=>
   obtain⟨rfl,hx,hO3⟩:=hp3;change Hid _ at hx;replace hO3:=af (qJ.out.trans hO3);go_wp2_with fail
   go_ret
   obtain⟨t3,t4,hx⟩:=hx.out;exact⟨rfl,⟨_,_,_,_,hx⟩,hO3.out⟩
  |false=>
   obtain⟨⟨ec,aD,rfl⟩,hO3⟩:=hp3;change Hid _ at aD;replace hO3:=af (qJ.out.trans hO3);go_wp2_with fail
   go_ret
   exact⟨⟨ec,aD.out,rfl⟩,hO3.out⟩
theorem Wp:(Tryz.prog.info? 109).map (fun i=>(i.zero,i.size,i.bytes))=some (some (.agg #[.string ⟨#[]⟩,.bool false,.int .u64 0,.int .u64 0,.int .u32 0,.bool false,.bool false,.bool false,.slice none 0 0,.slice none 0 0,.int .i64 0,.int .u64 0,.string ⟨#[]⟩,.slice none 0 0,.slice none 0 0]),15,176):=by kernel_rfl
theorem KR:jG Tryz.prog 52 109 bW.cells 15 176 where
 ut:=Tryz.underlying52
 info:=by obtain⟨i,h1,h2,h3,h4⟩:=info_parts Wp;exact⟨i,_,h1,h2,h3,h4,rfl⟩
 pos:=by omega
 len:=fun _=>rfl
 one x u hu:=by simp only[bW.cells,List.mem_cons,List.not_mem_nil,or_false]at hu;rcases hu with rfl|rfl|rfl|rfl|rfl|rfl|rfl|rfl|rfl|rfl|rfl|rfl|rfl|rfl|rfl<;>rfl
def paL(p:Jf):List Value:=[.string p.nm,.int .u32 p.ty,.int .i64 p.v.k,.int .u64 p.v.n,.string p.v.s]
theorem ZK:(Tryz.prog.info? 307).map (fun i=>(i.zero,i.size,i.bytes))=some (some (.agg #[.string ⟨#[]⟩,.int .u32 0,.int .i64 0,.int .u64 0,.string ⟨#[]⟩]),5,56):=by kernel_rfl
theorem ZL:jG Tryz.prog 247 307 paL 5 56 where
 ut:=Tryz.underlying247
 info:=by obtain⟨i,h1,h2,h3,h4⟩:=info_parts ZK;exact⟨i,_,h1,h2,h3,h4,rfl⟩
 pos:=by omega
 len:=fun _=>rfl
 one x u hu:=by simp only[paL,List.mem_cons,List.not_mem_nil,or_false]at hu;rcases hu with rfl|rfl|rfl|rfl|rfl<;>rfl
def sQ(r:Option PM)(w:World)(e:Ending)(w':World):Prop:=
 match r with
 |some m=>(∃x:bW,x.pl=m/\x.wf/\e=.returned (.tuple #[x.val,.int .i64 0]))/\ai [] w w'
 |none=>(∃(x:bW) (ec:Int),ec≠0/\e=.returned (.tuple #[x.val,.int .i64 ec]))/\ai [] w w'
def NA(g:List Int->Option PM)(deep:Int):Prop:= ∀(t:ByteArray) (W:World),t.size<=4096->aS W->Calls Tryz.prog 213 #[.string t,.int .i64 deep] W (sQ (g (ak t)) W)
theorem aG.strAt{w:World}{a:Option Addr}{n c:Nat}{l:List ByteArray}(h:aG Du w (.slice a n c) l){k:Nat}(hk:k<l.length): ∃b o,a=some ⟨b,o,none⟩/\w.cell? ⟨b,o+k,none⟩=some (.string l[k]):=by
 obtain⟨b,o,rfl,hx⟩:=h.at_ (k:=1) (fun _=>rfl) (by omega);have:=hx k _ 0 _ (List.getElem?_eq_getElem hk) rfl;exact⟨b,o,rfl,by simpa using this⟩
theorem YS{w:World}{b:Nat}{x0 x1 x2 x3 x4 x5:Value}{T:TypeId}(h:w.heap[b]?=some (.cells #[x0,x1,x2,x3,x4,x5] T (0,0))):
  w.cell? ⟨b,0,none⟩=some x0/\w.cell? ⟨b,1,none⟩=some x1/\w.cell? ⟨b,2,none⟩=some x2/\w.cell? ⟨b,3,none⟩=some x3/\w.cell? ⟨b,4,none⟩=some x4/\w.cell? ⟨b,5,none⟩=some x5:=
 ⟨cell_of_row _ _ 0 _ _ _ h,cell_of_row _ _ 1 _ _ _ h,cell_of_row _ _ 2 _ _ _ h,cell_of_row _ _ 3 _ _ _ h,cell_of_row _ _ 4 _ _ _ h,cell_of_row _ _ 5 _ _ _ h⟩
def C8(ok:Bool)(W0:World)(b:Nat)(e:Ending)(w':World):Prop:=
 match ok with
 |true=>e=.returned (.int .i64 0)/\(∃(p:Gw) (t3 t4 t5 t6:Sh),w'.heap[b]?=some (.cells #[.string p.ver,.string p.ref,.bool p.df,.slice t3.a t3.n t3.c,.slice t4.a t4.n t4.c,.slice t5.a t5.n t5.c,.slice t6.a t6.n t6.c] 551 (0,0)))/\ai [] W0 w'
 |false=>(∃ec:Int,ec≠0/\e=.returned (.int .i64 ec))/\ai [] W0 w'
theorem wY{ok:Bool}{W0 w':World}{b:Nat}{ec:Int}(h:ok=false)(aD:ec≠0)(ho:ai [] W0 w'):C8 ok W0 b (.returned (.int .i64 ec)) w':=by subst h;exact⟨⟨ec,aD,rfl⟩,ho⟩
theorem Jp(g:List Int->Option PM)(W0 w:World)(b:Nat)(p:Gw)(mv nv:Value)(M N:List ByteArray)(deep:Int)(h:wB W0 w b p mv nv M N)(hM: ∀s∈M,s.size<=4096)(hN: ∀s∈N,s.size<=4096)(hK:aS W0)(IH:NA g deep):
  Calls Tryz.prog 440 #[.pointer (some ⟨b,0,none⟩),.int .i64 deep] w (C8 (decide (M.length<=64)&&decide (N.length<=32)&&M.all (fun s=>(g (ak s)).isSome)&&N.all (fun s=>xQ (ak s))) W0 b):=by
 obtain⟨ok,hok⟩: ∃ok,(decide (M.length<=64)&&decide (N.length<=32)&&M.all (fun s=>(g (ak s)).isSome)&&N.all (fun s=>xQ (ak s)))=ok:=⟨_,rfl⟩;rw[hok];obtain⟨ma,mc,rfl⟩:=h.m.sl;obtain⟨na,nc,rfl⟩:=h.n.sl;obtain⟨c5,_⟩:=h.cell 5 (u:=.slice ma M.length mc) rfl;obtain⟨c6,_⟩:=h.cell 6 (u:=.slice na N.length nc) rfl;by_cases hm:64<M.length
 ·have aK:ok=false:=by rw[<-hok];simp;omega
  have q1:decide ((M.length:Int)>64)=true:=by simp;omega
  have q2:(64:Int)<M.length:=by omega
  change Hid _ at aK;replace h:=af h;clear hok hM hN hK IH hm;go_enter Tryz.func440,Tryz.ntmps440
  go_wp2_with fail
  go_ret
  exact wY aK.out (by decide) h.out.own
 by_cases hn:32<N.length
 ·have aK:ok=false:=by rw[<-hok];simp;omega
  have q1: ¬(64:Int)<M.length:=by omega
  have q2:(32:Int)<N.length:=by omega
  change Hid _ at aK;replace h:=af h;clear hok hM hN hK IH hm hn;go_enter Tryz.func440,Tryz.ntmps440
  go_wp2_with fail
  go_ret
  exact wY aK.out (by decide) h.out.own
 have q1: ¬(64:Int)<M.length:=by omega
 have q2: ¬(32:Int)<N.length:=by omega
 have hbl:=aj h.row;have hJ0:jl 109 bW.cells 15 w w b #[.string p.ver,.string p.ref,.bool p.df,.slice none 0 0,.slice none 0 0,.slice ma M.length mc,.slice na N.length nc] 551 4 (.slice none 0 0) ([]:List bW):=⟨ai.refl _ _,h.row,hbl,by simp,Sl.nil _ _ _⟩;have hRm:=af (h.m.reads (fun _=>rfl));have hRn:=af (h.n.reads (fun _=>rfl));have hmb:=af (fun g (hg:(Value.slice ma M.length mc).ownBlock=some g)=>h.rm g hg);have hnb:=af (fun g (hg:(Value.slice na N.length nc).ownBlock=some g)=>h.rn g hg);have dK:=af h.own;have hbase:=af h.base;have hW:Hid (∀W,ai [b] w W->ai [] W0 W):=af fun W ho=>dK.out.trans' ho (fun x hx=>.inr (by simp at hx;subst hx;exact hbase.out))
 have hK':Hid (∀W,ai [b] w W->aS W):=af fun W ho=>hK.own (hW.out W ho)
 have Yr:=af (Nat.not_lt.1 hm);have hn32:=af (Nat.not_lt.1 hn);change Hid _ at hJ0 hok hM hN IH;clear hm hn h hK;go_enter Tryz.func440,Tryz.ntmps440
 go_wp2_with fail
 clear c5 c6;go_loopg[32] M.length (fun gg s32 wr=> ∃(k:Nat) (v:Value) (L:List bW),k<=M.length/\gg=M.length-k/\s32=.int .i64 k/\Aside (jl 109 bW.cells 15 w wr b #[.string p.ver,.string p.ref,.bool p.df,.slice none 0 0,.slice none 0 0,.slice ma M.length mc,.slice na N.length nc] 551 4 v L/\L.length=k/\(M.take k).all (fun s=>(g (ak s)).isSome)=true))
 case atStart=>exact⟨0,_,[],by omega,by omega,rfl,hJ0.out,rfl,by simp⟩
 case round=>
  obtain⟨k,v,L,hk,rfl,rfl,hJ,hLk,hgood⟩:=hrel;have k0:(0:Int)<=k:=by omega
  obtain⟨va,vc,rfl⟩:=hJ.r.sl;by_cases hlt:k<M.length
  ·have k1:(k:Int)<M.length:=by omega
   have hwk:IntKind.i64.wrap ((k:Int)+1)=(k:Int)+1:=IntWalk.i64_in _ (by have:=Yr.out;omega);obtain⟨b1,o1,rfl,hc1⟩:=(hRm.out.own hJ.own (fun g hg=>by simpa using hmb.out g hg)).strAt hlt;have hs:=hM.out M[k] (List.getElem_mem hlt);have hnext:(g (ak M[k])).isSome=true->(M.take (k+1)).all (fun s=>(g (ak s)).isSome)=true:=fun hh=>by
    rw[List.take_succ_eq_append_getElem hlt,List.all_append,hgood];simp[hh]
   have hbad:g (ak M[k])=none->ok=false:=fun hh=>by
    rw[<-hok.out,show M.all (fun s=>(g (ak s)).isSome)=false by rw[List.all_eq_false];exact⟨M[k],List.getElem_mem hlt,by simp[hh]⟩];simp
   generalize M[k]=s at*;have cO:=IH.out s wr hs (hK'.out wr hJ.own);have hLk':L.length<=63:=by have:=Yr.out;omega
   have hl1:=af (show(L.length+1)*176<=140737488355328 by omega);have hl2:=af (show L.length+1<=maxLen by unfold maxLen;omega);have hl3:=af (show∀x:bW,(L++[x]).length=L.length+1 by simp);change Hid _ at hLk;replace hJ:=af hJ;clear hLk' hgood hs hJ0;cases hr:g (ak s)with
   |none=>
    rw[hr]at cO;have aK:=af (hbad hr);replace cO:=af cO;clear hnext hbad hr;go_wp2_with fail
    refine cO.out.mono ?_;rintro e w3 ⟨⟨⟨x1,x2,x3,x4,x5,x6,x7,x8,⟨y1,y2,y3⟩,⟨y4,y5,y6⟩,x9,x10,qQ,⟨y7,y8,y9⟩,⟨yD,yE,yF⟩⟩,ec,aD,rfl⟩,hO3⟩;unfold bW.val bW.cells;simp only;have q:(ec !=0)=true:=by simpa using aD
    have hOe:=af (hW.out _ ((hJ.out.own.trans hO3.nil).trans ((ai.refl [b] w3).alloc (.cells #[.string x1,.bool x2,.int .u64 x3,.int .u64 x4,.int .u32 x5,.bool x6,.bool x7,.bool x8,.slice y1 y2 y3,.slice y4 y5 y6,.int .i64 x9,.int .u64 x10,.string qQ,.slice y7 y8 y9,.slice yD yE yF] 109))));change Hid _ at aD;clear cO hJ hO3;go_wp2_with fail
    go_ret
    exact wY aK.out aD.out hOe.out
   |some m=>
    rw[hr]at cO;have hg:=af (hnext (by rw[hr];rfl));replace cO:=af cO;clear hnext hbad hr;go_wp2_with fail
    refine cO.out.mono ?_;rintro e w3 ⟨⟨⟨x1,x2,x3,x4,x5,x6,x7,x8,⟨y1,y2,y3⟩,⟨y4,y5,y6⟩,x9,x10,qQ,⟨y7,y8,y9⟩,⟨yD,yE,yF⟩⟩,_,_,rfl⟩,hO3⟩;unfold bW.val bW.cells;simp only;have uj:=af ((hJ.out.nil' hO3).nil' ((ai.refl [] w3).alloc (.cells #[.string x1,.bool x2,.int .u64 x3,.int .u64 x4,.int .u32 x5,.bool x6,.bool x7,.bool x8,.slice y1 y2 y3,.slice y4 y5 y6,.int .i64 x9,.int .u64 x10,.string qQ,.slice y7 y8 y9,.slice yD yE yF] 109)));have aaV:=heap_alloc_new w3 (.cells #[.string x1,.bool x2,.int .u64 x3,.int .u64 x4,.int .u32 x5,.bool x6,.bool x7,.bool x8,.slice y1 y2 y3,.slice y4 y5 y6,.int .i64 x9,.int .u64 x10,.string qQ,.slice y7 y8 y9,.slice yD yE yF] 109);clear cO hJ hO3 hc1;go_upto_region 9 with(fail)
    generalize(w3.alloc (.cells #[.string x1,.bool x2,.int .u64 x3,.int .u64 x4,.int .u32 x5,.bool x6,.bool x7,.bool x8,.slice y1 y2 y3,.slice y4 y5 y6,.int .i64 x9,.int .u64 x10,.string qQ,.slice y7 y8 y9,.slice yD yE yF] 109))=w4 at*;generalize w3.heap.size=qb at*;have hD:=uj.out.nil' ((ai.refl [] w4).drew);have hA:=uj.out.nil' (((ai.refl [] w4).alloc (.cells #[.string x1,.bool x2,.int .u64 x3,.int .u64 x4,.int .u32 x5,.bool x6,.bool x7,.bool x8,.slice y1 y2 y3,.slice y4 y5 y6,.int .i64 x9,.int .u64 x10,.string qQ,.slice y7 y8 y9,.slice yD yE yF] 109)).drew);obtain⟨n0,_⟩:=hD.cell;obtain⟨n1,_⟩:=hA.cell;obtain⟨a0,a1,a2,a3,a4,a5,a6,a7,a8,a9,J9,Ka,a12,a13,a14⟩:=KH ((ai.refl [] w4).drew.heap aaV (by simp));obtain⟨e0,e1,e2,e3,e4,e5,e6,e7,e8,e9,e10,e11,e12,e13,e14⟩:=KH ((((ai.refl [] w4).alloc (.cells #[.string x1,.bool x2,.int .u64 x3,.int .u64 x4,.int .u32 x5,.bool x6,.bool x7,.bool x8,.slice y1 y2 y3,.slice y4 y5 y6,.int .i64 x9,.int .u64 x10,.string qQ,.slice y7 y8 y9,.slice yD yE yF] 109)).drew).heap aaV (by simp));have mR:=af ((aG.new (enc:=bW.cells) (T:=109) w4 ⟨x1,x2,x3,x4,x5,x6,x7,x8,⟨y1,y2,y3⟩,⟨y4,y5,y6⟩,x9,x10,qQ,⟨y7,y8,y9⟩,⟨yD,yE,yF⟩⟩ 1).nil' ((ai.refl [] _).drew));replace hA:=af hA;simp only[bW.cells]at mR;clear hD uj;go_region_law((go_loud(refine eX rfl (.tmp 50) (.tmp 52) (by rfl) KR (jV _) (by rfl) hA.out.bare (by rfl) mR.out hl1.out hl2.out ?_);intro vv w5 hS5 hqq hg5 iD;obtain⟨sa5,sc5,rfl⟩:=hS5.sl;rw[hl3.out]at hS5 hg5⊢;obtain⟨⟨kC,f5⟩,mO⟩:=hA.out.add (hA.out.up hS5 hg5) iD;replace mO:=af mO;clear hS5 hg5 iD hqq))
    all_goals
     clear a0 a1 a2 a3 a4 a5 a6 a7 a8 a9 J9 Ka a12 a13 a14 e0 e1 e2 e3 e4 e5 e6 e7 e8 e9 e10 e11 e12 e13 e14 n0 n1 kC f5 mR hA hl1 hl2 hl3 aaV;go_wp2_with fail
     go_roundg(M.length-(k+1))
     case measure=>omega
     case rel=>exact⟨k+1,_,L++[_],by omega,rfl,by simp,mO.out,by simp[hLk.out],hg.out⟩
  ·have k1: ¬(k:Int)<M.length:=by omega
   rw[List.take_of_length_le (by omega)]at hgood;replace hok:=hok.out;rw[hgood,show decide (M.length<=64)=true by simpa using Yr.out,show decide (N.length<=32)=true by simpa using hn32.out]at hok;simp only[Bool.true_and]at hok;change Hid _ at hok;generalize L.length=nT at*;obtain⟨e6,_⟩:=hJ.cell' 6 (u:=.slice na N.length nc) rfl;have UJ:=aj hJ.row;have uV:jl 307 paL 5 wr wr b #[.string p.ver,.string p.ref,.bool p.df,.slice none 0 0,.slice va nT vc,.slice ma M.length mc,.slice na N.length nc] 551 3 (.slice none 0 0) ([]:List Jf):=⟨ai.refl _ _,hJ.row,UJ,by simp,Sl.nil _ _ _⟩;have hWr:=af hJ.own;change Hid _ at uV;clear hJ0 hJ hgood hLk hM Yr hRm hmb;generalize wr=wq at*;go_wp2_with fail
   clear e6;go_loopg[63] N.length (fun gg s63 wr=> ∃(k:Nat) (v:Value) (L:List Jf),k<=N.length/\gg=N.length-k/\s63=.int .i64 k/\Aside (jl 307 paL 5 wq wr b #[.string p.ver,.string p.ref,.bool p.df,.slice none 0 0,.slice va nT vc,.slice ma M.length mc,.slice na N.length nc] 551 3 v L/\L.length=k/\(N.take k).all (fun s=>xQ (ak s))=true))
   case atStart=>exact⟨0,_,[],by omega,by omega,rfl,uV.out,rfl,by simp⟩
   case round=>
    obtain⟨j,v,L2,hj,rfl,rfl,hJ,hLj,hgood⟩:=hrel;have j0:(0:Int)<=j:=by omega
    obtain⟨ua,uc,rfl⟩:=hJ.r.sl;by_cases hlt2:j<N.length
    ·have j1:(j:Int)<N.length:=by omega
     have hwj:IntKind.i64.wrap ((j:Int)+1)=(j:Int)+1:=IntWalk.i64_in _ (by have:=hn32.out;omega);obtain⟨b1,o1,rfl,hc1⟩:=(hRn.out.own (hWr.out.trans hJ.own) (fun g hg=>by simpa using hnb.out g hg)).strAt hlt2;have hs:=hN.out N[j] (List.getElem_mem hlt2);have hnext:xQ (ak N[j])=true->(N.take (j+1)).all (fun s=>xQ (ak s))=true:=fun hh=>by
      rw[List.take_succ_eq_append_getElem hlt2,List.all_append,hgood];simp[hh]
     have hbad:xQ (ak N[j])=false->ok=false:=fun hh=>by
      rw[<-hok.out,List.all_eq_false];exact⟨N[j],List.getElem_mem hlt2,by simp[hh]⟩
     generalize N[j]=s at*;have um:=(ai.refl [] wr).alloc (.cells #[.string ⟨#[]⟩,.int .u32 0,.int .i64 0,.int .u64 0,.string ⟨#[]⟩,.slice none 0 0] 566);have cO:=Jj wr _ wr.heap.size ⟨⟨#[]⟩,0,PV.zero⟩ s deep ⟨um,heap_alloc_new wr (.cells #[.string ⟨#[]⟩,.int .u32 0,.int .i64 0,.int .u64 0,.string ⟨#[]⟩,.slice none 0 0] 566),Nat.le_refl _,Sl.nil _ _ _,fun g hg=>by cases hg⟩ hs (hK'.out wr (hWr.out.trans hJ.own));have af0:L2.length<=31:=by have:=hn32.out;omega
     have hl1:=af (show(L2.length+1)*56<=140737488355328 by omega);have hl2:=af (show L2.length+1<=maxLen by unfold maxLen;omega);have hl3:=af (show∀x:Jf,(L2++[x]).length=L2.length+1 by simp);change Hid _ at hLj;replace hJ:=af hJ;clear af0 hgood hs uV um;cases hr:xQ (ak s)with
     |false=>
      rw[hr]at cO;have aK:=af (hbad hr);replace cO:=af cO;clear hnext hbad hr;go_wp2_with fail
      refine cO.out.mono ?_;rintro e w3 ⟨⟨ec,aD,rfl⟩,hO3⟩;have q:(ec !=0)=true:=by simpa using aD
      have hOe:=af (hW.out _ ((hWr.out.trans hJ.out.own).trans hO3.nil));change Hid _ at aD;clear cO hJ hO3;go_wp2_with fail
      go_ret
      exact wY aK.out aD.out hOe.out
     |true=>
      rw[hr]at cO;have hg:=af (hnext hr);replace cO:=af cO;clear hnext hbad hr;go_wp2_with fail
      refine cO.out.mono ?_;rintro e w4 ⟨rfl,⟨pn,pt,pk,pm,ps⟩,rv,L3,hP4⟩;have uj:=af (hJ.out.nil' hP4.own);have hpr:=hP4.row;clear cO hJ hc1;go_upto_region 18 with(fail)
      generalize wr.heap.size=qb at*;have hD:=uj.out.nil' ((ai.refl [] w4).drew);have hA:=uj.out.nil' (((ai.refl [] w4).alloc (.cells #[.string pn,.int .u32 pt,.int .i64 pk,.int .u64 pm,.string ps] 307)).drew);obtain⟨n0,_⟩:=hD.cell;obtain⟨n1,_⟩:=hA.cell;obtain⟨a0,a1,a2,a3,a4,a5⟩:=YS ((ai.refl [] w4).drew.heap hpr (by simp));obtain⟨e0,e1,e2,e3,e4,e5⟩:=YS ((((ai.refl [] w4).alloc (.cells #[.string pn,.int .u32 pt,.int .i64 pk,.int .u64 pm,.string ps] 307)).drew).heap hpr (by simp));have mR:=af ((aG.new (enc:=paL) (T:=307) w4 ⟨pn,pt,pk,pm,ps⟩ 1).nil' ((ai.refl [] _).drew));replace hA:=af hA;simp only[paL]at mR;clear hD uj hP4 hpr a5 e5;go_region_law((go_loud(refine eX rfl (.tmp 82) (.tmp 87) (by rfl) ZL (jV _) (by rfl) hA.out.bare (by rfl) mR.out hl1.out hl2.out ?_);intro vv w5 hS5 hqq hg5 iD;obtain⟨sa5,sc5,rfl⟩:=hS5.sl;rw[hl3.out]at hS5 hg5⊢;obtain⟨⟨kC,f5⟩,mO⟩:=hA.out.add (hA.out.up hS5 hg5) iD;replace mO:=af mO;clear hS5 hg5 iD hqq))
      all_goals
       clear a0 a1 a2 a3 a4 e0 e1 e2 e3 e4 n0 n1 kC f5 mR hA hl1 hl2 hl3;go_wp2_with fail
       go_roundg(N.length-(j+1))
       case measure=>omega
       case rel=>exact⟨j+1,_,L2++[_],by omega,rfl,by simp,mO.out,by simp[hLj.out],hg.out⟩
    ·have j1: ¬(j:Int)<N.length:=by omega
     rw[List.take_of_length_le (by omega)]at hgood;replace hok:=hok.out;rw[hgood]at hok;have jF:=af hok.symm;have hOe:=af (hW.out _ (hWr.out.trans hJ.own));have hrow:=hJ.row;generalize L2.length=nU at*;generalize N.length=nN at*;generalize M.length=nM at*;change Hid _ at hrow;clear uV hJ hgood hLj hok;go_wp2_with fail
     go_ret
     rw[jF.out];exact⟨rfl,⟨p,⟨_,_,_⟩,⟨_,_,_⟩,⟨_,_,_⟩,⟨_,_,_⟩,by simpa using hrow.out⟩,hOe.out⟩
end Go.Proofs.YtedcakchekaemaaGreatDoor
