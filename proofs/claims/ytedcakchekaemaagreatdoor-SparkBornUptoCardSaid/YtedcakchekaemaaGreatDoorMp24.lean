/- Contracts of the program, part 24. -/
import Derived.Test.YtedcakchekaemaaGreatDoorMp22
set_option maxRecDepth 100000
set_option maxHeartbeats 16000000
set_option linter.all false
namespace Go.Proofs.YtedcakchekaemaaGreatDoor
open Go.RowKit
variable [Kd]
structure Jf where
 nm:ByteArray
 ty:Int
 v:PV
structure Am (W0 w:World) (b:Nat) (p:Jf) (rv:Value) (L:List bN):Prop where
 own:ai [] W0 w
 row:w.heap[b]?=some (.cells #[.string p.nm,.int .u32 p.ty,.int .i64 p.v.k,.int .u64 p.v.n,.string p.v.s,rv] 566 (0,0))
 base:W0.heap.size<=b
 out:Sl 100 fL 4 W0.heap.size w rv L
 ro: ∀g,rv.ownBlock=some g->g≠b
section
variable {W0 w w' w1 : World} {b : Nat} {p : Jf} {rv v' : Value} {L L' : List bN}
theorem Am.nil'(h:Am W0 w b p rv L)(ho:ai [] w w'):Am W0 w' b p rv L:=⟨h.own.trans ho,ho.heap h.row (by simp),h.base,h.out.nil' ho,h.ro⟩
theorem Am.set(h:Am W0 w b p rv L){i:Nat}{u:Value}{p':Jf}(hs:jK w w' b i u)(hx:(#[.string p.nm,.int .u32 p.ty,.int .i64 p.v.k,.int .u64 p.v.n,.string p.v.s,rv]:Array Value).setIfInBounds i u=#[.string p'.nm,.int .u32 p'.ty,.int .i64 p'.v.k,.int .u64 p'.v.n,.string p'.v.s,rv]):Am W0 w' b p' rv L:=by
 have hr:=hs.row _ _ h.row;rw[hx]at hr;exact⟨h.own.trans' hs.own (fun x hx=>.inr (by simp at hx;subst hx;exact h.base)),hr,h.base,h.out.own hs.own (fun g hg=>by simpa using h.ro g hg),h.ro⟩
theorem Am.cell(h:Am W0 w b p rv L)(i:Nat){u:Value}(hu:(#[.string p.nm,.int .u32 p.ty,.int .i64 p.v.k,.int .u64 p.v.n,.string p.v.s,rv]:Array Value)[i]?=some u):w.cell? ⟨b,i,none⟩=some u/\w.frozen? ⟨b,i,none⟩=false:=
 ⟨by rw[cell_of_row _ _ _ _ _ _ h.row];exact hu,frozen_of_row _ b i _ _ h.row⟩
theorem Am.took(h:Am W0 w b p rv L)(h1:Sl 100 fL 4 W0.heap.size w1 v' L')(h2:ai rv.ownBlock.toList w w1)(h3: ∀g,v'.ownBlock=some g->rv.ownBlock=some g\/w.heap.size<=g):
  (w1.cell? ⟨b,5,none⟩=some rv/\w1.frozen? ⟨b,5,none⟩=false)/\Am W0 (w1.setCell ⟨b,5,none⟩ v') b p v' L':=by
 have hd:b∉rv.ownBlock.toList:=fun hx=>h.ro _ (Option.mem_toList.1 hx) rfl
 have hb1:=h2.heap h.row hd;have hbl:=aj h.row;have hnd: ∀g,v'.ownBlock=some g->g≠b:=fun g hg e=>by
  rcases h3 g hg with h4|h4
  ·exact h.ro g h4 e
  ·omega
 have hO2:ai [b] w1 (w1.setCell ⟨b,5,none⟩ v'):=(ai.refl _ _).setCell (.inl (by simp)) _;refine⟨⟨cell_of_row _ _ 5 _ _ _ hb1,frozen_of_row _ b 5 _ _ hb1⟩,(h.own.trans' h2 (fun x hx=>.inr (h.out.block (Option.mem_toList.1 hx)).1)).trans' hO2 (fun x hx=>.inr (by simp at hx;subst hx;exact h.base)),?_,h.base,h1.own hO2 (fun g hg=>by simpa using hnd g hg),hnd⟩;have:=heap_setCell_same _ b 5 _ _ v' hb1;simpa using this
end
def lY(t:Option (List bN))(W0 w:World)(b:Nat)(rv:Value)(e:Ending)(w':World):Prop:=
 match t with
 |some L=>e=.returned (.int .i64 0)/\ ∃p rv',Am W0 w' b p rv' L/\ai (b::rv.ownBlock.toList) w w'/\ ∀g,rv'.ownBlock=some g->rv.ownBlock=some g\/w.heap.size<=g
 |none=>(∃ec:Int,ec≠0/\e=.returned (.int .i64 ec))/\ai [] W0 w'
def iA(L:List bN)(f:bN):Option (List bN):=if qF f=true then some (if f.num=1\/f.num=2 then L else L++[f])else none
theorem KQ{t:Option (List bN)}{W0 w w':World}{b:Nat}{p:Jf}{rv rv':Value}{L:List bN}(ht:t=some L)(h:Am W0 w' b p rv' L)(ho:ai (b::rv.ownBlock.toList) w w')(hg: ∀g,rv'.ownBlock=some g->rv.ownBlock=some g\/w.heap.size<=g):lY t W0 w b rv (.returned (.int .i64 0)) w':=by rw[ht];exact⟨rfl,p,rv',h,ho,hg⟩
theorem Jg{t:Option (List bN)}{W0 w w':World}{b:Nat}{rv:Value}{ec:Int}(ht:t=none)(h:ec≠0)(ho:ai [] W0 w'):lY t W0 w b rv (.returned (.int .i64 ec)) w':=by rw[ht];exact⟨⟨ec,h,rfl⟩,ho⟩
theorem RH(W0 w:World)(b:Nat)(p:Jf)(rv:Value)(L:List bN)(k v:Int)(t:ByteArray)(h:Am W0 w b p rv L)(h0:0<=v):
  Calls Tryz.prog 443 #[.pointer (some ⟨b,0,none⟩),.agg #[.int .i64 1,.int .i64 k,.int .u64 v,.string t]] w (lY (iA L ⟨1,k,v,t⟩) W0 w b rv):=by
 have hms:iA L ⟨1,k,v,t⟩=if k=2 then some L else none:=by simp[iA,qF]
 generalize iA L ⟨1,k,v,t⟩=R at hms⊢;have hA:=(ai.refl [] w).alloc (.cells #[.int .i64 1,.int .i64 k,.int .u64 v,.string t] 100);have hM1:=h.nil' hA;have hbl:=aj h.row;obtain⟨⟨d0,d1,d2,d3⟩,-⟩:=q4 (heap_alloc_new w (.cells #[.int .i64 1,.int .i64 k,.int .u64 v,.string t] 100));have gH:=hM1.nil' ((ai.refl [] _).drew);have cT:=gM ⟨1,k,v,t⟩ b 0 (.string p.nm) _ (gH.cell 0 rfl).1 (gH.cell 0 rfl).2;replace gH:=af gH;unfold fL at cT;simp only at cT;by_cases hok:k=2
 ·rw[if_pos hok]at hms
  have hb:(k==2)=true:=by simpa using hok
  rw[hb]at cT;unfold aP at cT;change Hid _ at hms;replace cT:=af cT;clear hM1 hA h hok hb;go_enter Tryz.func443,Tryz.ntmps443
  go_wp2_with fail
  go_region_held3(fun W=>W.cell? ⟨w.heap.size,0,none⟩=some (.int .i64 1)/\W.cell? ⟨w.heap.size,1,none⟩=some (.int .i64 k)/\W.cell? ⟨w.heap.size,2,none⟩=some (.int .u64 v)/\W.cell? ⟨w.heap.size,3,none⟩=some (.string t)) (go_keep) ((go_at_call 385;(with_reducible refine cT.out.mono ?_);rintro e w2 ⟨rfl,hS⟩;have hM2:=af (gH.out.set (p':={p with nm:=t}) hS rfl);have hOb:Hid (ai (b::rv.ownBlock.toList) w w2):=af ((((ai.refl [] w).alloc (.cells #[.int .i64 1,.int .i64 k,.int .u64 v,.string t] 100)).drew.nil (S:=[b])).trans hS.own |>.mono (by simp));have nI:w2.cell? ⟨w.heap.size,0,none⟩=some (.int .i64 1)/\w2.cell? ⟨w.heap.size,1,none⟩=some (.int .i64 k)/\w2.cell? ⟨w.heap.size,2,none⟩=some (.int .u64 v)/\w2.cell? ⟨w.heap.size,3,none⟩=some (.string t):=⟨(hS.own.cell (block_lt_of_cell d0) (by simp;try omega)).trans d0,(hS.own.cell (block_lt_of_cell d1) (by simp;try omega)).trans d1,(hS.own.cell (block_lt_of_cell d2) (by simp;try omega)).trans d2,(hS.own.cell (block_lt_of_cell d3) (by simp;try omega)).trans d3⟩;clear hS))
  all_goals
   go_wp2_with fail
   go_ret
   exact KQ hms.out hM2.out hOb.out (fun g hg=>.inl hg)
 ·rw[if_neg hok]at hms
  have hb:(k==2)=false:=by
   rw[Bool.eq_false_iff];intro hh;exact hok (by simpa using hh)
  rw[hb]at cT;unfold aP at cT;change Hid _ at hms;replace cT:=af cT;clear hM1 hA h hok hb;go_enter Tryz.func443,Tryz.ntmps443
  go_wp2_with fail
  go_region_held3(fun W=>W.cell? ⟨w.heap.size,0,none⟩=some (.int .i64 1)/\W.cell? ⟨w.heap.size,1,none⟩=some (.int .i64 k)/\W.cell? ⟨w.heap.size,2,none⟩=some (.int .u64 v)/\W.cell? ⟨w.heap.size,3,none⟩=some (.string t)) (go_keep) ((go_at_call 385;(with_reducible refine cT.out.mono ?_);rintro e w2 ⟨⟨ec,aD,rfl⟩,hS⟩;have hO2:=af (gH.out.own.trans hS);replace aD:=af aD;have nI:w2.cell? ⟨w.heap.size,0,none⟩=some (.int .i64 1)/\w2.cell? ⟨w.heap.size,1,none⟩=some (.int .i64 k)/\w2.cell? ⟨w.heap.size,2,none⟩=some (.int .u64 v)/\w2.cell? ⟨w.heap.size,3,none⟩=some (.string t):=⟨(hS.cell (block_lt_of_cell d0) (by simp;try omega)).trans d0,(hS.cell (block_lt_of_cell d1) (by simp;try omega)).trans d1,(hS.cell (block_lt_of_cell d2) (by simp;try omega)).trans d2,(hS.cell (block_lt_of_cell d3) (by simp;try omega)).trans d3⟩;clear hS))
  all_goals
   go_wp2_with fail
   go_ret
   exact Jg hms.out aD.out hO2.out
theorem RI(W0 w:World)(b:Nat)(p:Jf)(rv:Value)(L:List bN)(k v:Int)(t:ByteArray)(h:Am W0 w b p rv L)(h0:0<=v):
  Calls Tryz.prog 443 #[.pointer (some ⟨b,0,none⟩),.agg #[.int .i64 2,.int .i64 k,.int .u64 v,.string t]] w (lY (iA L ⟨2,k,v,t⟩) W0 w b rv):=by
 have hms:iA L ⟨2,k,v,t⟩=if k=0/\v<=4294967295 then some L else none:=by simp[iA,qF]
 generalize iA L ⟨2,k,v,t⟩=R at hms⊢;have hA:=(ai.refl [] w).alloc (.cells #[.int .i64 2,.int .i64 k,.int .u64 v,.string t] 100);have hM1:=h.nil' hA;have hbl:=aj h.row;obtain⟨⟨d0,d1,d2,d3⟩,-⟩:=q4 (heap_alloc_new w (.cells #[.int .i64 2,.int .i64 k,.int .u64 v,.string t] 100));have gH:=hM1.nil' ((ai.refl [] _).drew);have cT:=zn ⟨2,k,v,t⟩ b 1 (.int .u32 p.ty) _ (gH.cell 1 rfl).1 (gH.cell 1 rfl).2 h0;replace gH:=af gH;unfold fL at cT;simp only at cT;by_cases hok:k=0/\v<=4294967295
 ·rw[if_pos hok]at hms
  have hb:(k==0&&decide (v<=4294967295))=true:=by simpa using hok
  rw[hb]at cT;unfold aP at cT;change Hid _ at hms;replace cT:=af cT;clear hM1 hA h hok hb;go_enter Tryz.func443,Tryz.ntmps443
  go_wp2_with fail
  go_region_held3(fun W=>W.cell? ⟨w.heap.size,0,none⟩=some (.int .i64 2)/\W.cell? ⟨w.heap.size,1,none⟩=some (.int .i64 k)/\W.cell? ⟨w.heap.size,2,none⟩=some (.int .u64 v)/\W.cell? ⟨w.heap.size,3,none⟩=some (.string t)) (go_keep) ((go_at_call 387;(with_reducible refine cT.out.mono ?_);rintro e w2 ⟨rfl,hS⟩;have hM2:=af (gH.out.set (p':={p with ty:=v}) hS rfl);have hOb:Hid (ai (b::rv.ownBlock.toList) w w2):=af ((((ai.refl [] w).alloc (.cells #[.int .i64 2,.int .i64 k,.int .u64 v,.string t] 100)).drew.nil (S:=[b])).trans hS.own |>.mono (by simp));have nI:w2.cell? ⟨w.heap.size,0,none⟩=some (.int .i64 2)/\w2.cell? ⟨w.heap.size,1,none⟩=some (.int .i64 k)/\w2.cell? ⟨w.heap.size,2,none⟩=some (.int .u64 v)/\w2.cell? ⟨w.heap.size,3,none⟩=some (.string t):=⟨(hS.own.cell (block_lt_of_cell d0) (by simp;try omega)).trans d0,(hS.own.cell (block_lt_of_cell d1) (by simp;try omega)).trans d1,(hS.own.cell (block_lt_of_cell d2) (by simp;try omega)).trans d2,(hS.own.cell (block_lt_of_cell d3) (by simp;try omega)).trans d3⟩;clear hS))
  all_goals
   go_wp2_with fail
   go_ret
   exact KQ hms.out hM2.out hOb.out (fun g hg=>.inl hg)
 ·rw[if_neg hok]at hms
  have hb:(k==0&&decide (v<=4294967295))=false:=by
   rw[Bool.eq_false_iff];intro hh;exact hok (by simpa using hh)
  rw[hb]at cT;unfold aP at cT;change Hid _ at hms;replace cT:=af cT;clear hM1 hA h hok hb;go_enter Tryz.func443,Tryz.ntmps443
  go_wp2_with fail
  go_region_held3(fun W=>W.cell? ⟨w.heap.size,0,none⟩=some (.int .i64 2)/\W.cell? ⟨w.heap.size,1,none⟩=some (.int .i64 k)/\W.cell? ⟨w.heap.size,2,none⟩=some (.int .u64 v)/\W.cell? ⟨w.heap.size,3,none⟩=some (.string t)) (go_keep) ((go_at_call 387;(with_reducible refine cT.out.mono ?_);rintro e w2 ⟨⟨ec,aD,rfl⟩,hS⟩;have hO2:=af (gH.out.own.trans hS);replace aD:=af aD;have nI:w2.cell? ⟨w.heap.size,0,none⟩=some (.int .i64 2)/\w2.cell? ⟨w.heap.size,1,none⟩=some (.int .i64 k)/\w2.cell? ⟨w.heap.size,2,none⟩=some (.int .u64 v)/\w2.cell? ⟨w.heap.size,3,none⟩=some (.string t):=⟨(hS.cell (block_lt_of_cell d0) (by simp;try omega)).trans d0,(hS.cell (block_lt_of_cell d1) (by simp;try omega)).trans d1,(hS.cell (block_lt_of_cell d2) (by simp;try omega)).trans d2,(hS.cell (block_lt_of_cell d3) (by simp;try omega)).trans d3⟩;clear hS))
  all_goals
   go_wp2_with fail
   go_ret
   exact Jg hms.out aD.out hO2.out
end Go.Proofs.YtedcakchekaemaaGreatDoor
namespace Go.Proofs.YtedcakchekaemaaGreatDoor
open Go.RowKit
variable [Kd]
theorem Fy(W0 w:World)(b:Nat)(p:Jf)(rv:Value)(L:List bN)(f:bN)(h:Am W0 w b p rv L)(h1:f.num≠1)(h2:f.num≠2)(hL:L.length<=256):
  Calls Tryz.prog 443 #[.pointer (some ⟨b,0,none⟩),.agg (fL f).toArray] w (lY (iA L f) W0 w b rv):=by
 have hms:iA L f=some (L++[f]):=by unfold iA qF;rw[if_neg h1,if_neg h2];simp[h1,h2]
 generalize iA L f=R at hms⊢;obtain⟨n,k,v,t⟩:=f;simp only at h1 h2;unfold fL;have um:=(ai.refl [] w).alloc (.cells #[.int .i64 n,.int .i64 k,.int .u64 v,.string t] 100);have hM1:=h.nil' um;obtain⟨⟨d0,d1,d2,d3⟩,-⟩:=q4 (heap_alloc_new w (.cells #[.int .i64 n,.int .i64 k,.int .u64 v,.string t] 100));have hfb:=heap_alloc_new w (.cells #[.int .i64 n,.int .i64 k,.int .u64 v,.string t] 100);obtain⟨ra,rc,rfl⟩:=h.out.sl;have q1:(n==1)=false:=by simpa using h1
 have q2:(n==2)=false:=by simpa using h2
 have hl1:=af (show(L.length+[(bN.mk n k v t)].length)*40<=140737488355328 by simp only[List.length_singleton];omega);have hl2:=af (show L.length+[(bN.mk n k v t)].length<=maxLen by unfold maxLen;simp only[List.length_singleton];omega);have hl3:=af (show(L++[(bN.mk n k v t)]).length=L.length+1 by simp);change Hid _ at hms hfb;replace hM1:=af hM1;have afZ:=af um;have wz:=um.size;change Hid _ at wz;clear h h1 h2 um;go_enter Tryz.func443,Tryz.ntmps443
 go_wp2_with fail
 clear d0 d1 d2 d3;generalize(w.alloc (.cells #[.int .i64 n,.int .i64 k,.int .u64 v,.string t] 100))=w2 at*;generalize zZ:w.heap.size=fb at*;change Hid _ at zZ;have hD:=hM1.out.nil' ((ai.refl [] w2).drew);obtain⟨p5,_⟩:=hD.cell 5 (u:=.slice ra L.length rc) rfl;obtain⟨⟨d0,d1,d2,d3⟩,-⟩:=q4 ((ai.refl [] w2).drew.heap hfb.out (by simp));have hA:=hM1.out.nil' (((ai.refl [] w2).alloc (.cells (fL (bN.mk n k v t)).toArray 100)).drew);obtain⟨q5,_⟩:=hA.cell 5 (u:=.slice ra L.length rc) rfl;obtain⟨⟨e0,e1,e2,e3⟩,-⟩:=q4 ((((ai.refl [] w2).alloc (.cells (fL (bN.mk n k v t)).toArray 100)).drew).heap hfb.out (by simp));have mR:=af ((aG.new (enc:=fL) (T:=100) w2 (bN.mk n k v t) 1).nil' ((ai.refl [] _).drew));replace hA:=af hA;simp only[fL]at hA q5 mR e0 e1 e2 e3;clear hD;go_region_law((go_loud(refine eX rfl (.tmp 27) (.tmp 29) (by rfl) Be hA.out.own (by rfl) hA.out.out (by rfl) mR.out hl1.out hl2.out ?_);intro va w5 hS5 hqq hg5 iD;obtain⟨a5,c5,rfl⟩:=hS5.sl;rw[hl3.out]at hS5 hg5⊢;obtain⟨⟨kC,f5⟩,pF⟩:=hA.out.took hS5 iD hg5;have hOb:Hid (ai (b::(Value.slice ra L.length rc).ownBlock.toList) w (w5.setCell ⟨b,5,none⟩ (.slice a5 (L.length+1) c5))):=af ((((afZ.out.nil.trans (((ai.refl [] w2).alloc _).drew.nil)).trans (iD.mono (by intro x hx;exact List.mem_cons_of_mem _ hx))).setCell (.inl (by simp)) _));have hgb:Hid (∀g,(Value.slice a5 (L.length+1) c5).ownBlock=some g->(Value.slice ra L.length rc).ownBlock=some g\/w.heap.size<=g):=af (fun g hg=>(hg5 g hg).imp id (fun h4=>Nat.le_trans (by rw[zZ.out];exact wz.out) (Nat.le_trans ((ai.refl [] w2).alloc _).size h4)));replace pF:=af pF;clear hS5 hg5 iD hqq))
 all_goals
  go_wp2_with fail
  go_ret
  exact KQ hms.out pF.out hOb.out hgb.out
theorem Jh(W0 w:World)(b:Nat)(p:Jf)(rv:Value)(L:List bN)(f:bN)(h:Am W0 w b p rv L)(hf:f.Ok)(hL:L.length<=256):
  Calls Tryz.prog 443 #[.pointer (some ⟨b,0,none⟩),.agg (fL f).toArray] w (lY (iA L f) W0 w b rv):=by
 by_cases h1:f.num=1
 ·obtain⟨n,k,v,t⟩:=f
  simp only at h1;subst h1;exact RH W0 w b p rv L k v t h hf.v0
 by_cases h2:f.num=2
 ·obtain⟨n,k,v,t⟩:=f
  simp only at h2;subst h2;exact RI W0 w b p rv L k v t h hf.v0
 exact Fy W0 w b p rv L f h h1 h2 hL
theorem Ji(W0 w:World)(b:Nat)(p:Jf)(rv:Value)(L:List bN)(deep:Int)(h:Am W0 w b p rv L)(hL:L.length<=256)(hf: ∀f∈L,f.Ok)(hK:aS w):
  Calls Tryz.prog 442 #[.pointer (some ⟨b,0,none⟩),.int .i64 deep] w (lY ((O5 3 false L).map fun _=>L) W0 w b rv):=by
 have cV:=yg rv L 3 false w (h.out.reads eT) hL hf (by omega) hK;obtain⟨ra,rc,rfl⟩:=h.out.sl;obtain⟨c5,_⟩:=h.cell 5 (u:=.slice ra L.length rc) rfl;unfold vK at cV;cases hv:O5 3 false L with
 |none=>
  rw[hv]at cV;replace cV:=af cV;replace h:=af h;clear hf hK;go_enter Tryz.func442,Tryz.ntmps442
  go_wp2_with fail
  refine cV.out.mono ?_;rintro e w2 ⟨⟨⟨y1,y2,y3⟩,ec,aD,rfl⟩,hO⟩;unfold PV.val;simp only;have h2:=h.out.nil' hO;obtain⟨a2,z2⟩:=h2.cell 2 (u:=.int .i64 p.v.k) rfl;obtain⟨a3,z3⟩:=h2.cell 3 (u:=.int .u64 p.v.n) rfl;obtain⟨a4,z4⟩:=h2.cell 4 (u:=.string p.v.s) rfl;have hO3:=af (((h2.own.setCell (p:=⟨b,2,none⟩) (.inr h2.base) (.int .i64 y1)).setCell (p:=⟨b,3,none⟩) (.inr h2.base) (.int .u64 y2)).setCell (p:=⟨b,4,none⟩) (.inr h2.base) (.string y3));change Hid _ at aD;clear h2 hO;go_wp2_with fail
  go_ret
  exact Jg rfl aD.out hO3.out
 |some y=>
  rw[hv]at cV;replace cV:=af cV;replace h:=af h;clear hf hK;go_enter Tryz.func442,Tryz.ntmps442
  go_wp2_with fail
  refine cV.out.mono ?_;rintro e w2 ⟨rfl,hO⟩;obtain⟨y1,y2,y3⟩:=y;unfold PV.val;simp only;have h2:=h.out.nil' hO;obtain⟨a2,z2⟩:=h2.cell 2 (u:=.int .i64 p.v.k) rfl;obtain⟨a3,z3⟩:=h2.cell 3 (u:=.int .u64 p.v.n) rfl;obtain⟨a4,z4⟩:=h2.cell 4 (u:=.string p.v.s) rfl;have h3:=h2.set (p':=⟨p.nm,p.ty,⟨y1,p.v.n,p.v.s⟩⟩) (jK.of2 (i:=2) (v:=.int .i64 y1) (ai.refl [] w2)) rfl;have h4:=h3.set (p':=⟨p.nm,p.ty,⟨y1,y2,p.v.s⟩⟩) (jK.of2 (i:=3) (v:=.int .u64 y2) (ai.refl [] _)) rfl;have hOb:=af (((((hO.nil (S:=b::(Value.slice ra L.length rc).ownBlock.toList)).setCell (p:=⟨b,2,none⟩) (.inl (by simp)) (.int .i64 y1)).setCell (p:=⟨b,3,none⟩) (.inl (by simp)) (.int .u64 y2)).setCell (p:=⟨b,4,none⟩) (.inl (by simp)) (.string y3)));have h5:=af (h4.set (p':=⟨p.nm,p.ty,⟨y1,y2,y3⟩⟩) (jK.of2 (i:=4) (v:=.string y3) (ai.refl [] _)) rfl);clear h2 hO h3 h4;go_wp2_with fail
  go_ret
  exact KQ rfl h5.out hOb.out (fun g hg=>.inl hg)
theorem RJ(n:Nat)(a:Addr)(w:World):(method (n+1) 564 (.pointer (some a)) "crier/metric.take").run Tryz.prog w=.ok (443,.pointer (some a)) w:=by kernel_rfl
theorem RL(n:Nat)(a:Addr)(w:World):(method (n+1) 564 (.pointer (some a)) "crier/metric.done").run Tryz.prog w=.ok (442,.pointer (some a)) w:=by kernel_rfl
def Fz(ok:Bool)(W0:World)(b:Nat)(e:Ending)(w':World):Prop:=
 match ok with
 |true=>e=.returned (.int .i64 0)/\ ∃p rv L,Am W0 w' b p rv L
 |false=>(∃ec:Int,ec≠0/\e=.returned (.int .i64 ec))/\ai [] W0 w'
theorem CU{ok:Bool}{W0 w':World}{b:Nat}{ec:Int}(h:ok=false)(aD:ec≠0)(ho:ai [] W0 w'):Fz ok W0 b (.returned (.int .i64 ec)) w':=by subst h;exact⟨⟨ec,aD,rfl⟩,ho⟩
def nY(l:List bN):List bN:=l.filter fun f=> !(f.num==1||f.num==2)
theorem FB{l:List bN}{k:Nat}(hk:k<l.length)(hp:qF l[k]=true):iA (nY (l.take k)) l[k]=some (nY (l.take (k+1))):=by
 unfold iA;rw[if_pos hp]
 congr 1
 unfold nY;rw[List.take_succ_eq_append_getElem hk,List.filter_append];by_cases h:l[k].num=1\/l[k].num=2
 ·rw[if_pos h]
  rcases h with h|h<;>simp[h]
 ·rw[if_neg h]
  simp only[not_or]at h;simp[h.1,h.2]
theorem Jj(W0 w:World)(b:Nat)(p:Jf)(s:ByteArray)(deep:Int)(h:Am W0 w b p (.slice none 0 0) [])(hs:s.size<=4096)(hK:aS W0):
  Calls Tryz.prog 257 #[.iface 564 (.pointer (some ⟨b,0,none⟩)),.string s,.int .i64 deep] w (Fz (xQ (ak s)) W0 b):=by
 obtain⟨ok,hok⟩: ∃ok,xQ (ak s)=ok:=⟨_,rfl⟩;rw[hok];unfold xQ at hok;obtain⟨w1,c,hcv,aL,cW⟩:=sK s w (by omega);have mT:=RJ;have mD:=RL;have hbw:=aj h.row;replace cW:=af cW;replace h:=af h;have Lb:=af hK;clear hK aL;go_enter Tryz.func257,Tryz.ntmps257
 go_wp2_with fail
 refine cW.out.mono ?_;intro e w2 hp;clear cW hcv;cases hw:uH (ak s)with
 |none=>
  rw[hw]at hp hok;simp only at hok;obtain⟨⟨ec,aD,rfl⟩,hO2⟩:=hp;have aK:=af hok.symm;have q:(ec !=0)=true:=by simpa using aD
  change Hid _ at aD;replace hO2:=af (h.out.own.trans hO2);clear hw hok;go_wp2_with fail
  go_ret
  exact CU aK.out aD.out hO2.out
 |some l=>
  rw[hw]at hp hok;simp only at hok;obtain⟨⟨aY,rfl,hS⟩,hO2⟩:=hp;obtain⟨hll,hf⟩:=nS (bU s) hw;have hvb: ∀g,aY.ownBlock=some g->g<w2.heap.size/\g≠b:=fun g hg=>by have:=hS.block hg;exact⟨this.2,by omega⟩
  have uO:=af (hS.reads eT);obtain⟨va,vc,rfl⟩:=hS.sl;have uV:=af (h.out.nil' hO2);change Hid _ at hf hok hvb;clear hw hS hO2 h;go_wp2_with fail
  go_loopg[23] l.length (fun g s23 wr=> ∃(k:Nat) (p:Jf) (rv:Value),k<=l.length/\g=l.length-k/\s23=.int .i64 k/\Aside (Am W0 wr b p rv (nY (l.take k))/\ai [b] w2 wr/\(∀g,rv.ownBlock=some g->w2.heap.size<=g)/\(l.take k).all qF=true))
  case atStart=>exact⟨0,_,_,by omega,by omega,rfl,uV.out,ai.refl _ _,fun g hg=>(by cases hg),by simp⟩
  case round=>
   obtain⟨k,p,rv,hk,rfl,rfl,hP,hOb,hrg,hgood⟩:=hrel;have k0:(0:Int)<=k:=by omega
   by_cases hlt:k<l.length
   ·have k1:(k:Int)<l.length:=by omega
    have hwk:IntKind.i64.wrap ((k:Int)+1)=(k:Int)+1:=IntWalk.i64_in _ (by omega);obtain⟨b1,o1,rfl,c0,c1,c2,c3⟩:=(uO.out.own hOb (fun g hg=>by have:=(hvb.out g hg).2;simpa using this)).fld hlt;have hF:=hf.out l[k] (List.getElem_mem hlt);have hstep:=fun hp=>FB (l:=l) hlt hp
    have Vb:(nY (l.take k)).length<=256:=Nat.le_trans (List.length_filter_le _ _) (by rw[List.length_take];omega);have hnext:qF l[k]=true->(l.take (k+1)).all qF=true:=fun hh=>by
     rw[List.take_succ_eq_append_getElem hlt,List.all_append,hgood];simp[hh]
    have hbad:qF l[k]=false->ok=false:=fun hh=>by
     have hr:=hok.out;rw[show l.all qF=false by rw[List.all_eq_false];exact⟨l[k],List.getElem_mem hlt,by simp[hh]⟩]at hr;simpa using hr.symm
    generalize l[k]=f at*;have hA:=(ai.refl [] wr).alloc (.cells (fL f).toArray 100);have cT:=Jh W0 _ b p rv _ f (hP.nil' hA) hF Vb;have hszA:=hA.size;obtain⟨⟨d0,d1,d2,d3⟩,-⟩:=q4 (heap_alloc_new wr (.cells (fL f).toArray 100));obtain⟨f1,f2,f3,f4⟩:=f;unfold fL at*;simp only at*;cases hpf:qF ⟨f1,f2,f3,f4⟩with
    |true=>
     rw[hstep hpf]at cT;unfold lY at cT;have hg:=af (hnext hpf);replace cT:=af cT;have aaP:=af (hOb.trans hA.nil);have Yq:=af (hOb.trans (hA.nil (S:=[b]))).size;change Hid _ at hrg;clear hstep hnext hbad hgood hpf hP hOb hA hszA uV;go_wp2_with fail
     refine cT.out.mono ?_;rintro e w5 ⟨rfl,p',rv',hP',jM,hg'⟩;have UL:=af (aaP.out.trans' jM (fun x hx=>by
      rcases List.mem_cons.1 hx with rfl|hx
      ·exact .inl (by simp)
      ·exact .inr (hrg.out x (Option.mem_toList.1 hx))))
     have aaQ:=af (show∀g,rv'.ownBlock=some g->w2.heap.size<=g from fun g hg=>(hg' g hg).elim (fun h4=>hrg.out g h4) (fun h4=>Nat.le_trans Yq.out h4));change Hid _ at hP';clear jM hg' d0 d1 d2 d3 cT;go_wp2_with fail
     go_roundg(l.length-(k+1))
     case measure=>omega
     case rel=>exact⟨k+1,_,_,by omega,rfl,by simp,hP'.out,UL.out,aaQ.out,hg.out⟩
    |false=>
     rw[show iA (nY (l.take k)) ⟨f1,f2,f3,f4⟩=none by unfold iA;rw[if_neg (by rw[hpf];simp)]]at cT;unfold lY at cT;have aK:=af (hbad hpf);replace cT:=af cT;clear hstep hnext hbad hgood hpf hP hOb hA hszA uV;go_wp2_with fail
     refine cT.out.mono ?_;rintro e w5 ⟨⟨ec,aD,rfl⟩,aF⟩;have q:(ec !=0)=true:=by simpa using aD
     change Hid _ at aD aF;go_wp2_with fail
     go_ret
     exact CU aK.out aD.out aF.out
   ·have k1: ¬(k:Int)<l.length:=by omega
    rw[List.take_of_length_le (by omega)]at hgood hP;have Vb:(nY l).length<=256:=Nat.le_trans (List.length_filter_le _ _) hll;have cD:=Ji W0 wr b p rv (nY l) deep hP Vb (fun f hf'=>hf.out f (List.mem_filter.1 hf').1) (Lb.out.own hP.own);have hok2:=hok.out;rw[hgood,Bool.true_and]at hok2;have jm:(O5 3 false (nY l)).isSome=ok:=hok2;cases hv:O5 3 false (nY l)with
    |none=>
     rw[hv]at cD jm;have aK:ok=false:=jm.symm;change Hid _ at aK;unfold lY at cD;simp only[Option.map_none]at cD;replace cD:=af cD;clear hgood hP hOb hrg hok hok2 jm hv uV;go_wp2_with fail
     refine cD.out.mono ?_;rintro e w5 ⟨⟨ec,aD,rfl⟩,aF⟩;change Hid _ at aD aF;go_wp2_with fail
     go_ret
     exact CU aK.out aD.out aF.out
    |some y=>
     rw[hv]at cD jm;have jF:ok=true:=jm.symm;change Hid _ at jF;unfold lY at cD;simp only[Option.map_some]at cD;replace cD:=af cD;clear hgood hP hOb hrg hok hok2 jm hv uV;go_wp2_with fail
     refine cD.out.mono ?_;rintro e w5 ⟨rfl,p',rv',hP',_,_⟩;change Hid _ at hP';go_wp2_with fail
     go_ret
     rw[jF.out];exact⟨rfl,_,_,_,hP'.out⟩
structure Gw where
 ver:ByteArray
 ref:ByteArray
 df:Bool
def sP(p:Gw)(mv nv:Value):Array Value:=#[.string p.ver,.string p.ref,.bool p.df,.slice none 0 0,.slice none 0 0,mv,nv]
structure wB (W0 w:World) (b:Nat) (p:Gw) (mv nv:Value) (M N:List ByteArray):Prop where
 own:ai [] W0 w
 row:w.heap[b]?=some (.cells (sP p mv nv) 551 (0,0))
 base:W0.heap.size<=b
 m:Sl 9 Du 1 W0.heap.size w mv M
 n:Sl 9 Du 1 W0.heap.size w nv N
 rm: ∀g,mv.ownBlock=some g->g≠b
 rn: ∀g,nv.ownBlock=some g->g≠b
 ap: ∀g,mv.ownBlock=some g->nv.ownBlock≠some g
section
variable {W0 w w' w1 : World} {b : Nat} {p : Gw} {mv nv v' : Value} {M N L' : List ByteArray}
theorem wB.nil'(h:wB W0 w b p mv nv M N)(ho:ai [] w w'):wB W0 w' b p mv nv M N:=⟨h.own.trans ho,ho.heap h.row (by simp),h.base,h.m.nil' ho,h.n.nil' ho,h.rm,h.rn,h.ap⟩
theorem wB.set(h:wB W0 w b p mv nv M N){i:Nat}{u:Value}{p':Gw}(hs:jK w w' b i u)(hx:(sP p mv nv).setIfInBounds i u=sP p' mv nv):wB W0 w' b p' mv nv M N:=by
 have hr:=hs.row _ _ h.row;rw[hx]at hr;exact⟨h.own.trans' hs.own (fun x hx=>.inr (by simp at hx;subst hx;exact h.base)),hr,h.base,h.m.own hs.own (fun g hg=>by simpa using h.rm g hg),h.n.own hs.own (fun g hg=>by simpa using h.rn g hg),h.rm,h.rn,h.ap⟩
theorem wB.cell(h:wB W0 w b p mv nv M N)(i:Nat){u:Value}(hu:(sP p mv nv)[i]?=some u):w.cell? ⟨b,i,none⟩=some u/\w.frozen? ⟨b,i,none⟩=false:=
 ⟨by rw[cell_of_row _ _ _ _ _ _ h.row];exact hu,frozen_of_row _ b i _ _ h.row⟩
theorem wB.addM(h:wB W0 w b p mv nv M N)(h1:Sl 9 Du 1 W0.heap.size w1 v' L')(h2:ai mv.ownBlock.toList w w1)(h3: ∀g,v'.ownBlock=some g->mv.ownBlock=some g\/w.heap.size<=g):
  (w1.cell? ⟨b,5,none⟩=some mv/\w1.frozen? ⟨b,5,none⟩=false)/\wB W0 (w1.setCell ⟨b,5,none⟩ v') b p v' nv L' N:=by
 have hd:b∉mv.ownBlock.toList:=fun hx=>h.rm _ (Option.mem_toList.1 hx) rfl
 have hb1:=h2.heap h.row hd;have hbl:=aj h.row;have hnd: ∀g,v'.ownBlock=some g->g≠b:=fun g hg e=>by
  rcases h3 g hg with h4|h4
  ·exact h.rm g h4 e
  ·omega
 have hO2:ai [b] w1 (w1.setCell ⟨b,5,none⟩ v'):=(ai.refl _ _).setCell (.inl (by simp)) _;have hot:=(h.n.own h2 (fun g hg hx=>h.ap g (Option.mem_toList.1 hx) hg)).own hO2 (fun g hg=>by simpa using h.rn g hg);refine⟨⟨by rw[cell_of_row _ _ _ _ _ _ hb1];rfl,frozen_of_row _ b 5 _ _ hb1⟩,(h.own.trans' h2 (fun x hx=>.inr (h.m.block (Option.mem_toList.1 hx)).1)).trans' hO2 (fun x hx=>.inr (by simp at hx;subst hx;exact h.base)),?_,h.base,h1.own hO2 (fun g hg=>by simpa using hnd g hg),hot,hnd,h.rn,fun g hg ht=>?_⟩
 ·have:=heap_setCell_same _ b 5 _ _ v' hb1
  simpa[sP]using this
 ·rcases h3 g hg with h4|h4
  ·exact h.ap g h4 ht
  ·have:=(h.n.block ht).2;omega
theorem wB.addN(h:wB W0 w b p mv nv M N)(h1:Sl 9 Du 1 W0.heap.size w1 v' L')(h2:ai nv.ownBlock.toList w w1)(h3: ∀g,v'.ownBlock=some g->nv.ownBlock=some g\/w.heap.size<=g):
  (w1.cell? ⟨b,6,none⟩=some nv/\w1.frozen? ⟨b,6,none⟩=false)/\wB W0 (w1.setCell ⟨b,6,none⟩ v') b p mv v' M L':=by
 have hd:b∉nv.ownBlock.toList:=fun hx=>h.rn _ (Option.mem_toList.1 hx) rfl
 have hb1:=h2.heap h.row hd;have hbl:=aj h.row;have hnd: ∀g,v'.ownBlock=some g->g≠b:=fun g hg e=>by
  rcases h3 g hg with h4|h4
  ·exact h.rn g h4 e
  ·omega
 have hO2:ai [b] w1 (w1.setCell ⟨b,6,none⟩ v'):=(ai.refl _ _).setCell (.inl (by simp)) _;have hot:=(h.m.own h2 (fun g hg hx=>h.ap g hg (Option.mem_toList.1 hx))).own hO2 (fun g hg=>by simpa using h.rm g hg);refine⟨⟨by rw[cell_of_row _ _ _ _ _ _ hb1];rfl,frozen_of_row _ b 6 _ _ hb1⟩,(h.own.trans' h2 (fun x hx=>.inr (h.n.block (Option.mem_toList.1 hx)).1)).trans' hO2 (fun x hx=>.inr (by simp at hx;subst hx;exact h.base)),?_,h.base,hot,h1.own hO2 (fun g hg=>by simpa using hnd g hg),h.rm,hnd,fun g hg ht=>?_⟩
 ·have:=heap_setCell_same _ b 6 _ _ v' hb1
  simpa[sP]using this
 ·rcases h3 g ht with h4|h4
  ·exact h.ap g hg h4
  ·have:=(h.m.block hg).2;omega
end
def lZ(t:Option (List ByteArray×List ByteArray))(W0 w:World)(b:Nat)(mv nv:Value)(e:Ending)(w':World):Prop:=
 match t with
 |some L=>e=.returned (.int .i64 0)/\ ∃p mv' Y9,wB W0 w' b p mv' Y9 L.1 L.2/\ai (b::(mv.ownBlock.toList++nv.ownBlock.toList)) w w'/\(∀g,mv'.ownBlock=some g->mv.ownBlock=some g\/w.heap.size<=g)/\ ∀g,Y9.ownBlock=some g->nv.ownBlock=some g\/w.heap.size<=g
 |none=>(∃ec:Int,ec≠0/\e=.returned (.int .i64 ec))/\ai [] W0 w'
def dD(L:List ByteArray×List ByteArray)(f:bN):Option (List ByteArray×List ByteArray):=if kD f=true then some (if f.num=2 then(L.1++[f.text],L.2)else if f.num=3 then(L.1,L.2++[f.text])else L)else none
theorem Bu{t:Option (List ByteArray×List ByteArray)}{W0 w w':World}{b:Nat}{p:Gw}{mv nv mv' Y9:Value}{L:List ByteArray×List ByteArray}(ht:t=some L)(h:wB W0 w' b p mv' Y9 L.1 L.2)(ho:ai (b::(mv.ownBlock.toList++nv.ownBlock.toList)) w w')(hg: ∀g,mv'.ownBlock=some g->mv.ownBlock=some g\/w.heap.size<=g)(hg2: ∀g,Y9.ownBlock=some g->nv.ownBlock=some g\/w.heap.size<=g):lZ t W0 w b mv nv (.returned (.int .i64 0)) w':=by rw[ht];exact⟨rfl,p,mv',Y9,h,ho,hg,hg2⟩
theorem zK{t:Option (List ByteArray×List ByteArray)}{W0 w w':World}{b:Nat}{mv nv:Value}{ec:Int}(ht:t=none)(h:ec≠0)(ho:ai [] W0 w'):lZ t W0 w b mv nv (.returned (.int .i64 ec)) w':=by rw[ht];exact⟨⟨ec,h,rfl⟩,ho⟩
theorem RN(W0 w:World)(b:Nat)(p:Gw)(mv nv:Value)(L:List ByteArray×List ByteArray)(k v:Int)(t:ByteArray)(h:wB W0 w b p mv nv L.1 L.2):
  Calls Tryz.prog 441 #[.pointer (some ⟨b,0,none⟩),.agg #[.int .i64 1,.int .i64 k,.int .u64 v,.string t]] w (lZ (dD L ⟨1,k,v,t⟩) W0 w b mv nv):=by
 have hms:dD L ⟨1,k,v,t⟩=if k=2 then some L else none:=by simp[dD,kD]
 generalize dD L ⟨1,k,v,t⟩=R at hms⊢;have hA:=((ai.refl [] w).alloc (.cells #[.int .i64 1,.int .i64 k,.int .u64 v,.string t] 100)).alloc (.cells #[.string ⟨#[]⟩] 9);have hM1:=h.nil' hA;have hbl:=aj h.row;obtain⟨⟨a0,a1,a2,a3⟩,-⟩:=q4 (heap_alloc_new w (.cells #[.int .i64 1,.int .i64 k,.int .u64 v,.string t] 100));obtain⟨⟨d0,d1,d2,d3⟩,-⟩:=q4 (((ai.refl [] (w.alloc (.cells #[.int .i64 1,.int .i64 k,.int .u64 v,.string t] 100))).alloc (.cells #[.string ⟨#[]⟩] 9)).heap (heap_alloc_new w (.cells #[.int .i64 1,.int .i64 k,.int .u64 v,.string t] 100)) (by simp));have gH:=hM1.nil' ((ai.refl [] _).drew);have cT:=gM ⟨1,k,v,t⟩ b 0 (.string p.ver) _ (gH.cell 0 rfl).1 (gH.cell 0 rfl).2;replace gH:=af gH;unfold fL at cT;simp only at cT;by_cases hok:k=2
 ·rw[if_pos hok]at hms
  have hb:(k==2)=true:=by simpa using hok
  rw[hb]at cT;unfold aP at cT;change Hid _ at hms;replace cT:=af cT;clear hM1 hA h hok hb;go_enter Tryz.func441,Tryz.ntmps441
  go_wp2_with fail
  go_region_held3(fun W=>W.cell? ⟨w.heap.size,0,none⟩=some (.int .i64 1)/\W.cell? ⟨w.heap.size,1,none⟩=some (.int .i64 k)/\W.cell? ⟨w.heap.size,2,none⟩=some (.int .u64 v)/\W.cell? ⟨w.heap.size,3,none⟩=some (.string t)) (go_keep) ((go_at_call 385;(with_reducible refine cT.out.mono ?_);rintro e w2 ⟨rfl,hS⟩;have hM2:=af (gH.out.set (p':={p with ver:=t}) hS rfl);have hOb:Hid (ai (b::(mv.ownBlock.toList++nv.ownBlock.toList)) w w2):=af (((((ai.refl [] w).alloc (.cells #[.int .i64 1,.int .i64 k,.int .u64 v,.string t] 100)).alloc (.cells #[.string ⟨#[]⟩] 9)).drew.nil (S:=[b])).trans hS.own |>.mono (by simp));have nI:w2.cell? ⟨w.heap.size,0,none⟩=some (.int .i64 1)/\w2.cell? ⟨w.heap.size,1,none⟩=some (.int .i64 k)/\w2.cell? ⟨w.heap.size,2,none⟩=some (.int .u64 v)/\w2.cell? ⟨w.heap.size,3,none⟩=some (.string t):=⟨(hS.own.cell (block_lt_of_cell d0) (by simp;try omega)).trans d0,(hS.own.cell (block_lt_of_cell d1) (by simp;try omega)).trans d1,(hS.own.cell (block_lt_of_cell d2) (by simp;try omega)).trans d2,(hS.own.cell (block_lt_of_cell d3) (by simp;try omega)).trans d3⟩;clear hS))
  all_goals
   go_wp2_with fail
   go_ret
   exact Bu hms.out hM2.out hOb.out (fun g hg=>.inl hg) (fun g hg=>.inl hg)
 ·rw[if_neg hok]at hms
  have hb:(k==2)=false:=by
   rw[Bool.eq_false_iff];intro hh;exact hok (by simpa using hh)
  rw[hb]at cT;unfold aP at cT;change Hid _ at hms;replace cT:=af cT;clear hM1 hA h hok hb;go_enter Tryz.func441,Tryz.ntmps441
  go_wp2_with fail
  go_region_held3(fun W=>W.cell? ⟨w.heap.size,0,none⟩=some (.int .i64 1)/\W.cell? ⟨w.heap.size,1,none⟩=some (.int .i64 k)/\W.cell? ⟨w.heap.size,2,none⟩=some (.int .u64 v)/\W.cell? ⟨w.heap.size,3,none⟩=some (.string t)) (go_keep) ((go_at_call 385;(with_reducible refine cT.out.mono ?_);rintro e w2 ⟨⟨ec,aD,rfl⟩,hS⟩;have hO2:=af (gH.out.own.trans hS);replace aD:=af aD;have nI:w2.cell? ⟨w.heap.size,0,none⟩=some (.int .i64 1)/\w2.cell? ⟨w.heap.size,1,none⟩=some (.int .i64 k)/\w2.cell? ⟨w.heap.size,2,none⟩=some (.int .u64 v)/\w2.cell? ⟨w.heap.size,3,none⟩=some (.string t):=⟨(hS.cell (block_lt_of_cell d0) (by simp;try omega)).trans d0,(hS.cell (block_lt_of_cell d1) (by simp;try omega)).trans d1,(hS.cell (block_lt_of_cell d2) (by simp;try omega)).trans d2,(hS.cell (block_lt_of_cell d3) (by simp;try omega)).trans d3⟩;clear hS))
  all_goals
   go_wp2_with fail
   go_ret
   exact zK hms.out aD.out hO2.out
theorem RO(W0 w:World)(b:Nat)(p:Gw)(mv nv:Value)(L:List ByteArray×List ByteArray)(k v:Int)(t:ByteArray)(h:wB W0 w b p mv nv L.1 L.2):
  Calls Tryz.prog 441 #[.pointer (some ⟨b,0,none⟩),.agg #[.int .i64 4,.int .i64 k,.int .u64 v,.string t]] w (lZ (dD L ⟨4,k,v,t⟩) W0 w b mv nv):=by
 have hms:dD L ⟨4,k,v,t⟩=if k=2 then some L else none:=by simp[dD,kD]
 generalize dD L ⟨4,k,v,t⟩=R at hms⊢;have hA:=((ai.refl [] w).alloc (.cells #[.int .i64 4,.int .i64 k,.int .u64 v,.string t] 100)).alloc (.cells #[.string ⟨#[]⟩] 9);have hM1:=h.nil' hA;have hbl:=aj h.row;obtain⟨⟨a0,a1,a2,a3⟩,-⟩:=q4 (heap_alloc_new w (.cells #[.int .i64 4,.int .i64 k,.int .u64 v,.string t] 100));obtain⟨⟨d0,d1,d2,d3⟩,-⟩:=q4 (((ai.refl [] (w.alloc (.cells #[.int .i64 4,.int .i64 k,.int .u64 v,.string t] 100))).alloc (.cells #[.string ⟨#[]⟩] 9)).heap (heap_alloc_new w (.cells #[.int .i64 4,.int .i64 k,.int .u64 v,.string t] 100)) (by simp));have gH:=hM1.nil' ((ai.refl [] _).drew);have cT:=gM ⟨4,k,v,t⟩ b 1 (.string p.ref) _ (gH.cell 1 rfl).1 (gH.cell 1 rfl).2;replace gH:=af gH;unfold fL at cT;simp only at cT;by_cases hok:k=2
 ·rw[if_pos hok]at hms
  have hb:(k==2)=true:=by simpa using hok
  rw[hb]at cT;unfold aP at cT;change Hid _ at hms;replace cT:=af cT;clear hM1 hA h hok hb;go_enter Tryz.func441,Tryz.ntmps441
  go_wp2_with fail
  go_region_held3(fun W=>W.cell? ⟨w.heap.size,0,none⟩=some (.int .i64 4)/\W.cell? ⟨w.heap.size,1,none⟩=some (.int .i64 k)/\W.cell? ⟨w.heap.size,2,none⟩=some (.int .u64 v)/\W.cell? ⟨w.heap.size,3,none⟩=some (.string t)) (go_keep) ((go_at_call 385;(with_reducible refine cT.out.mono ?_);rintro e w2 ⟨rfl,hS⟩;have hM2:=af (gH.out.set (p':={p with ref:=t}) hS rfl);have hOb:Hid (ai (b::(mv.ownBlock.toList++nv.ownBlock.toList)) w w2):=af (((((ai.refl [] w).alloc (.cells #[.int .i64 4,.int .i64 k,.int .u64 v,.string t] 100)).alloc (.cells #[.string ⟨#[]⟩] 9)).drew.nil (S:=[b])).trans hS.own |>.mono (by simp));have nI:w2.cell? ⟨w.heap.size,0,none⟩=some (.int .i64 4)/\w2.cell? ⟨w.heap.size,1,none⟩=some (.int .i64 k)/\w2.cell? ⟨w.heap.size,2,none⟩=some (.int .u64 v)/\w2.cell? ⟨w.heap.size,3,none⟩=some (.string t):=⟨(hS.own.cell (block_lt_of_cell d0) (by simp;try omega)).trans d0,(hS.own.cell (block_lt_of_cell d1) (by simp;try omega)).trans d1,(hS.own.cell (block_lt_of_cell d2) (by simp;try omega)).trans d2,(hS.own.cell (block_lt_of_cell d3) (by simp;try omega)).trans d3⟩;clear hS))
  all_goals
   go_wp2_with fail
   go_ret
   exact Bu hms.out hM2.out hOb.out (fun g hg=>.inl hg) (fun g hg=>.inl hg)
 ·rw[if_neg hok]at hms
  have hb:(k==2)=false:=by
   rw[Bool.eq_false_iff];intro hh;exact hok (by simpa using hh)
  rw[hb]at cT;unfold aP at cT;change Hid _ at hms;replace cT:=af cT;clear hM1 hA h hok hb;go_enter Tryz.func441,Tryz.ntmps441
  go_wp2_with fail
  go_region_held3(fun W=>W.cell? ⟨w.heap.size,0,none⟩=some (.int .i64 4)/\W.cell? ⟨w.heap.size,1,none⟩=some (.int .i64 k)/\W.cell? ⟨w.heap.size,2,none⟩=some (.int .u64 v)/\W.cell? ⟨w.heap.size,3,none⟩=some (.string t)) (go_keep) ((go_at_call 385;(with_reducible refine cT.out.mono ?_);rintro e w2 ⟨⟨ec,aD,rfl⟩,hS⟩;have hO2:=af (gH.out.own.trans hS);replace aD:=af aD;have nI:w2.cell? ⟨w.heap.size,0,none⟩=some (.int .i64 4)/\w2.cell? ⟨w.heap.size,1,none⟩=some (.int .i64 k)/\w2.cell? ⟨w.heap.size,2,none⟩=some (.int .u64 v)/\w2.cell? ⟨w.heap.size,3,none⟩=some (.string t):=⟨(hS.cell (block_lt_of_cell d0) (by simp;try omega)).trans d0,(hS.cell (block_lt_of_cell d1) (by simp;try omega)).trans d1,(hS.cell (block_lt_of_cell d2) (by simp;try omega)).trans d2,(hS.cell (block_lt_of_cell d3) (by simp;try omega)).trans d3⟩;clear hS))
  all_goals
   go_wp2_with fail
   go_ret
   exact zK hms.out aD.out hO2.out
theorem RP(W0 w:World)(b:Nat)(p:Gw)(mv nv:Value)(L:List ByteArray×List ByteArray)(k v:Int)(t:ByteArray)(h:wB W0 w b p mv nv L.1 L.2):
  Calls Tryz.prog 441 #[.pointer (some ⟨b,0,none⟩),.agg #[.int .i64 5,.int .i64 k,.int .u64 v,.string t]] w (lZ (dD L ⟨5,k,v,t⟩) W0 w b mv nv):=by
 have hms:dD L ⟨5,k,v,t⟩=if k=0/\v<=1 then some L else none:=by simp[dD,kD]
 generalize dD L ⟨5,k,v,t⟩=R at hms⊢;have hA:=((ai.refl [] w).alloc (.cells #[.int .i64 5,.int .i64 k,.int .u64 v,.string t] 100)).alloc (.cells #[.string ⟨#[]⟩] 9);have hM1:=h.nil' hA;have hbl:=aj h.row;obtain⟨⟨a0,a1,a2,a3⟩,-⟩:=q4 (heap_alloc_new w (.cells #[.int .i64 5,.int .i64 k,.int .u64 v,.string t] 100));obtain⟨⟨d0,d1,d2,d3⟩,-⟩:=q4 (((ai.refl [] (w.alloc (.cells #[.int .i64 5,.int .i64 k,.int .u64 v,.string t] 100))).alloc (.cells #[.string ⟨#[]⟩] 9)).heap (heap_alloc_new w (.cells #[.int .i64 5,.int .i64 k,.int .u64 v,.string t] 100)) (by simp));have gH:=hM1.nil' ((ai.refl [] _).drew);have cT:=sI ⟨5,k,v,t⟩ b 2 (.bool p.df) _ (gH.cell 2 rfl).1 (gH.cell 2 rfl).2;replace gH:=af gH;unfold fL at cT;simp only at cT;by_cases hok:k=0/\v<=1
 ·rw[if_pos hok]at hms
  have hb:(k==0&&decide (v<=1))=true:=by simpa using hok
  rw[hb]at cT;unfold aP at cT;change Hid _ at hms;replace cT:=af cT;clear hM1 hA h hok hb;go_enter Tryz.func441,Tryz.ntmps441
  go_wp2_with fail
  go_region_held3(fun W=>W.cell? ⟨w.heap.size,0,none⟩=some (.int .i64 5)/\W.cell? ⟨w.heap.size,1,none⟩=some (.int .i64 k)/\W.cell? ⟨w.heap.size,2,none⟩=some (.int .u64 v)/\W.cell? ⟨w.heap.size,3,none⟩=some (.string t)) (go_keep) ((go_at_call 388;(with_reducible refine cT.out.mono ?_);rintro e w2 ⟨rfl,hS⟩;have hM2:=af (gH.out.set (p':={p with df:=v==1}) hS rfl);have hOb:Hid (ai (b::(mv.ownBlock.toList++nv.ownBlock.toList)) w w2):=af (((((ai.refl [] w).alloc (.cells #[.int .i64 5,.int .i64 k,.int .u64 v,.string t] 100)).alloc (.cells #[.string ⟨#[]⟩] 9)).drew.nil (S:=[b])).trans hS.own |>.mono (by simp));have nI:w2.cell? ⟨w.heap.size,0,none⟩=some (.int .i64 5)/\w2.cell? ⟨w.heap.size,1,none⟩=some (.int .i64 k)/\w2.cell? ⟨w.heap.size,2,none⟩=some (.int .u64 v)/\w2.cell? ⟨w.heap.size,3,none⟩=some (.string t):=⟨(hS.own.cell (block_lt_of_cell d0) (by simp;try omega)).trans d0,(hS.own.cell (block_lt_of_cell d1) (by simp;try omega)).trans d1,(hS.own.cell (block_lt_of_cell d2) (by simp;try omega)).trans d2,(hS.own.cell (block_lt_of_cell d3) (by simp;try omega)).trans d3⟩;clear hS))
  all_goals
   go_wp2_with fail
   go_ret
   exact Bu hms.out hM2.out hOb.out (fun g hg=>.inl hg) (fun g hg=>.inl hg)
 ·rw[if_neg hok]at hms
  have hb:(k==0&&decide (v<=1))=false:=by
   rw[Bool.eq_false_iff];intro hh;exact hok (by simpa using hh)
  rw[hb]at cT;unfold aP at cT;change Hid _ at hms;replace cT:=af cT;clear hM1 hA h hok hb;go_enter Tryz.func441,Tryz.ntmps441
  go_wp2_with fail
  go_region_held3(fun W=>W.cell? ⟨w.heap.size,0,none⟩=some (.int .i64 5)/\W.cell? ⟨w.heap.size,1,none⟩=some (.int .i64 k)/\W.cell? ⟨w.heap.size,2,none⟩=some (.int .u64 v)/\W.cell? ⟨w.heap.size,3,none⟩=some (.string t)) (go_keep) ((go_at_call 388;(with_reducible refine cT.out.mono ?_);rintro e w2 ⟨⟨ec,aD,rfl⟩,hS⟩;have hO2:=af (gH.out.own.trans hS);replace aD:=af aD;have nI:w2.cell? ⟨w.heap.size,0,none⟩=some (.int .i64 5)/\w2.cell? ⟨w.heap.size,1,none⟩=some (.int .i64 k)/\w2.cell? ⟨w.heap.size,2,none⟩=some (.int .u64 v)/\w2.cell? ⟨w.heap.size,3,none⟩=some (.string t):=⟨(hS.cell (block_lt_of_cell d0) (by simp;try omega)).trans d0,(hS.cell (block_lt_of_cell d1) (by simp;try omega)).trans d1,(hS.cell (block_lt_of_cell d2) (by simp;try omega)).trans d2,(hS.cell (block_lt_of_cell d3) (by simp;try omega)).trans d3⟩;clear hS))
  all_goals
   go_wp2_with fail
   go_ret
   exact zK hms.out aD.out hO2.out
end Go.Proofs.YtedcakchekaemaaGreatDoor
namespace Go.Proofs.YtedcakchekaemaaGreatDoor
open Go.RowKit
variable [Kd]
structure jl {α:Type} (T:TypeId) (enc:α->List Value) (k:Nat) (W0 w:World) (b:Nat) (R:Array Value) (TY:TypeId) (i:Nat) (v:Value) (L:List α):Prop where
 own:ai [b] W0 w
 row:w.heap[b]?=some (.cells (R.setIfInBounds i v) TY (0,0))
 lt:b<W0.heap.size
 at':i<R.size
 r:Sl T enc k W0.heap.size w v L
section
variable {α : Type} {T TY : TypeId} {enc : α → List Value} {k : Nat} {W0 w w' w1 : World} {b i : Nat} {R : Array Value} {v v' : Value} {L L' : List α}
theorem jl.nil'(h:jl T enc k W0 w b R TY i v L)(ho:ai [] w w'):jl T enc k W0 w' b R TY i v L:=⟨h.own.trans ho.nil,ho.heap h.row (by simp),h.lt,h.at',h.r.nil' ho⟩
theorem jl.cell(h:jl T enc k W0 w b R TY i v L):w.cell? ⟨b,i,none⟩=some v/\w.frozen? ⟨b,i,none⟩=false:=by
 have hi:=h.at';exact⟨by rw[cell_of_row _ _ _ _ _ _ h.row];simp[hi],frozen_of_row _ b i _ _ h.row⟩
theorem jl.cell'(h:jl T enc k W0 w b R TY i v L)(j:Nat){u:Value}(hu:(R.setIfInBounds i v)[j]?=some u):w.cell? ⟨b,j,none⟩=some u/\w.frozen? ⟨b,j,none⟩=false:=
 ⟨by rw[cell_of_row _ _ _ _ _ _ h.row];exact hu,frozen_of_row _ b j _ _ h.row⟩
theorem jl.add(h:jl T enc k W0 w b R TY i v L)(h1:Sl T enc k W0.heap.size w1 v' L')(h2:ai v.ownBlock.toList w w1):
  (w1.cell? ⟨b,i,none⟩=some v/\w1.frozen? ⟨b,i,none⟩=false)/\jl T enc k W0 (w1.setCell ⟨b,i,none⟩ v') b R TY i v' L':=by
 have hi:=h.at';have hd:b∉v.ownBlock.toList:=fun hx=>by
  have:=(h.r.block (Option.mem_toList.1 hx)).1;have:=h.lt;omega
 have hb1:=h2.heap h.row hd;have hO2:ai [b] w1 (w1.setCell ⟨b,i,none⟩ v'):=(ai.refl _ _).setCell (.inl (by simp)) _;have hnd: ∀g,v'.ownBlock=some g->g≠b:=fun g hg e=>by
  have:=(h1.block hg).1;have:=h.lt;omega
 refine⟨⟨by rw[cell_of_row _ _ _ _ _ _ hb1];simp[hi],frozen_of_row _ b i _ _ hb1⟩,(h.own.trans' h2 (fun x hx=>.inr (h.r.block (Option.mem_toList.1 hx)).1)).trans hO2,?_,h.lt,hi,h1.own hO2 (fun g hg=>by simpa using hnd g hg)⟩;have:=heap_setCell_same _ b i _ _ v' hb1;rw[this]
 congr 2
 apply Array.ext_getElem?;intro j;simp only[Array.getElem?_setIfInBounds,Array.size_setIfInBounds];split<;>rfl
theorem jl.bare(h:jl T enc k W0 w b R TY i v L):Sl T enc k (EQ w).heap.size w v L:=h.r.bare
theorem jl.up(h:jl T enc k W0 w b R TY i v L)(h1:Sl T enc k (EQ w).heap.size w1 v' L')(hg: ∀g,v'.ownBlock=some g->v.ownBlock=some g\/w.heap.size<=g):Sl T enc k W0.heap.size w1 v' L':=
 h1.up (fun g hg'=>by
  rcases hg g hg' with h4|h4
  ·exact(h.r.block h4).1
  ·exact Nat.le_trans h.own.size h4)
end
end Go.Proofs.YtedcakchekaemaaGreatDoor
namespace Go.Proofs.YtedcakchekaemaaGreatDoor
open Go.RowKit
theorem Zp(xb kb:Nat)(k1 k2:ByteArray)(w:World)(h1:w.cell? ⟨xb,0,none⟩=some (.string k1))(h2:w.cell? ⟨kb,0,none⟩=some (.string k2)):
  Calls Tryz.prog 230 #[.pointer (some ⟨xb,0,none⟩),.pointer (some ⟨kb,0,none⟩)] w fun e w'=>e=.returned (.bool (k1==k2))/\ai [] w w':=by
 rw[beq_toListBytes];go_enter Tryz.func230,Tryz.ntmps230
 go_wp2_with fail
 go_quiet(fail)
 go_wp2_with fail
 go_ret
 exact⟨rfl,(ai.refl _ _).drewN _⟩
def ou(ms:List Mk)(key:ByteArray):Option Nat:=ms.findIdx? fun x=>x.key==key
def G8(ms:List Mk)(key:ByteArray):Int:=match ou ms key with|some i=>i|none=> -1
theorem G9{ms:List Mk}{key:ByteArray}{i:Nat}(hi:i<ms.length)(h0: ∀j,j<i->((ms.getD j Mk.dflt).key==key)=false)(h1:((ms.getD i Mk.dflt).key==key)=true):ou ms key=some i:=by
 unfold ou;rw[List.findIdx?_eq_some_iff_getElem];simp only[List.getD,List.getElem?_eq_getElem hi,Option.getD_some]at h1;refine⟨hi,h1,fun j hj=>?_⟩;have:=h0 j hj;simp only[List.getD,List.getElem?_eq_getElem (show j<ms.length by omega),Option.getD_some]at this;simp[this]
theorem He{ms:List Mk}{key:ByteArray}(h0: ∀j,j<ms.length->((ms.getD j Mk.dflt).key==key)=false):ou ms key=none:=by
 unfold ou;rw[List.findIdx?_eq_none_iff];intro x hx;obtain⟨j,hj,rfl⟩:=List.getElem_of_mem hx;have:=h0 j hj;simpa only[List.getD,List.getElem?_eq_getElem hj,Option.getD_some]using this
theorem yV{ms:List Mk}{key:ByteArray}{i:Nat}(h:ou ms key=some i):i<ms.length/\(ms.getD i Mk.dflt).key=key:=by
 obtain⟨hl,hk,_⟩:=List.findIdx?_eq_some_iff_getElem.1 h;refine⟨hl,?_⟩;simp only[List.getD,List.getElem?_eq_getElem hl,Option.getD_some];exact LawfulBEq.eq_of_beq hk
theorem Hf(v:Value)(ms:List Mk)(kb:Nat)(key:ByteArray)(w:World)(h:tL w v ms)(hl:ms.length<=1000)(hk:w.cell? ⟨kb,0,none⟩=some (.string key)):
  Calls Tryz.prog 229 #[v,.func (.func 230) #[] #[.pointer (some ⟨kb,0,none⟩)]] w fun e w'=>e=.returned (.int .i64 (G8 ms key))/\ai [] w w':=by
 obtain⟨a,cap,rfl⟩:=h.sl;have hkb:=block_lt_of_cell hk;generalize hr:G8 ms key=r;change Hid _ at hr;have hcells: ∀j,j<ms.length-> ∃g,a=some ⟨g,0,none⟩/\g<w.heap.size/\w.cell? ⟨g,j,none⟩=some (.pointer (some ⟨(ms.getD j Mk.dflt).blk,0,none⟩))/\w.cell? ⟨(ms.getD j Mk.dflt).blk,0,none⟩=some (.string (ms.getD j Mk.dflt).key):=by
  intro j hj;obtain⟨g,cap',cur,hv,hg,hn,hs,hc⟩:=h.shape (by omega);simp only[Value.slice.injEq]at hv;have mj:ms.getD j Mk.dflt∈ms:=by simp[List.getD,List.getElem?_eq_getElem hj]
  exact⟨g,hv.1,aj hg,(cell_of_row w g j _ _ _ hg).trans (hc j hj),cell_of_row w _ 0 _ _ _ (h.marks _ mj).1⟩
 change Hid _ at hcells;clear h;go_enter Tryz.func229,Tryz.ntmps229
 go_wp2_with fail
 go_loopg[8] ms.length (fun g s8 wr=> ∃k:Nat,k<=ms.length/\g=ms.length-k/\s8=.int .i64 k/\ai [] w wr/\Hid (∀j,j<k->((ms.getD j Mk.dflt).key==key)=false))
 case atStart=>exact⟨0,by omega,by omega,rfl,ai.refl _ _,af (fun j hj=>by omega)⟩
 case round=>
  obtain⟨k,hk1,rfl,rfl,hO,hN⟩:=hrel;by_cases hlt:k<ms.length
  ·obtain⟨g,rfl,hgl,hc,hd⟩:=hcells.out k hlt
   have hc':wr.cell? ⟨g,k,none⟩=some (.pointer (some ⟨(ms.getD k Mk.dflt).blk,0,none⟩)):=(hO.cell (p:=⟨g,k,none⟩) hgl (by simp)).trans hc;have E:=Zp (ms.getD k Mk.dflt).blk kb (ms.getD k Mk.dflt).key key wr ((hO.cell (p:=⟨(ms.getD k Mk.dflt).blk,0,none⟩) (block_lt_of_cell hd) (by simp)).trans hd) ((hO.cell (p:=⟨kb,0,none⟩) hkb (by simp)).trans hk);have hlast: ∀b,((ms.getD k Mk.dflt).key==key)=b->if b then r=k else(∀j,j<k+1->((ms.getD j Mk.dflt).key==key)=false):=by
    intro b hb;cases b
    ·simp only[Bool.false_eq_true,if_false]
     intro j hj;by_cases e:j=k
     ·rw[e];exact hb
     ·exact hN.out j (by omega)
    ·simp only[if_true]
     rw[<-hr.out];unfold G8;rw[G9 hlt hN.out hb]
   generalize hx:ms.getD k Mk.dflt=x at*;clear hx;generalize(x.key==key)=b at E hlast;have hlast:=af (hlast b rfl);replace E:=af E;clear hc hd;go_wp2_with fail
   refine E.out.mono ?_;rintro e w2 ⟨rfl,hO2⟩;cases b
   ·go_wp2_with fail
    go_roundg(ms.length-(k+1))
    case measure=>omega
    case rel=>exact⟨k+1,by omega,rfl,by go_num,hO.trans hO2,af (by simpa using hlast.out)⟩
   ·go_wp2_with fail
    go_ret
    exact⟨by rw[show r=(k:Int)by simpa using hlast.out];rfl,hO.trans hO2⟩
  ·have hrn:r= -1:=by
    rw[<-hr.out];unfold G8;rw[He (fun j hj=>hN.out j (by omega))]
   change Hid _ at hrn;have hge:ms.length<=k:=by omega
   go_wp2_with fail
   go_ret
   exact⟨by rw[hrn.out];rfl,hO⟩
theorem AU(rb:Nat)(gap:Int)(v:Value)(ms:List Mk)(key:ByteArray)(w:World)(h:bT w rb gap v ms)(hl:ms.length<=1000):
  Calls Tryz.prog 174 #[.pointer (some ⟨rb,0,none⟩),.string key] w fun e w'=>e=.returned (.int .i64 (G8 ms key))/\ai [] w w':=by
 have hrb:=aj h.row;have hO:=(ai.refl [] w).alloc (.cells #[.string key] 9);have h1:=h.nil hO;have c1:w.cell? ⟨rb,1,none⟩=some v:=cell_of_row w rb 1 _ _ _ h.row;have c1':(w.alloc (.cells #[.string key] 9)).cell? ⟨rb,1,none⟩=some v:=cell_of_row _ rb 1 _ _ _ h1.row;have I:=af (Hf v ms w.heap.size key _ h1.marks hl (by simp));clear h h1;go_enter Tryz.func174,Tryz.ntmps174
 go_wp2_with fail
 refine I.out.mono ?_;rintro e w2 ⟨rfl,hO2⟩;go_wp2_with fail
 go_ret
 exact⟨rfl,hO.trans hO2⟩
theorem lQ(rb:Nat)(w:World)(m:Bool)(hm:w.cell? ⟨rb,2,none⟩=some (.bool m)):
  Calls Tryz.prog 228 #[.pointer (some ⟨rb,0,none⟩)] w fun e w'=>e=.returned (.bool (!m))/\w=w':=by
 go_enter Tryz.func228,Tryz.ntmps228
 go_wp2
 go_ret
 exact⟨rfl,rfl⟩
def ru(n:Int):Bool:=decide (0<=n)&&decide (n<=1073741824)
theorem LU(n:Int)(w:World):Calls Tryz.prog 49 #[.int .i64 n] w fun e w'=>e=.returned (.bool (ru n))/\w=w':=by
 unfold ru;by_cases h0:0<=n
 ·by_cases h1:n<=1073741824
  ·simp only[h0,h1,decide_true,Bool.and_true]
   go_enter Tryz.func49,Tryz.ntmps49
   go_wp2
   go_ret
   exact⟨rfl,rfl⟩
  ·simp only[h0,h1,decide_true,decide_false,Bool.and_false]
   go_enter Tryz.func49,Tryz.ntmps49
   go_wp2
   go_ret
   exact⟨rfl,rfl⟩
 ·simp only[h0,decide_false,Bool.false_and]
  go_enter Tryz.func49,Tryz.ntmps49
  go_wp2
  go_ret
  exact⟨rfl,rfl⟩
abbrev iH:=List (ByteArray×Int)
def kv(ms:List Mk):iH:=ms.map fun x=>(x.key,x.at_)
structure oz (w:World) (rb:Nat) (gap:Int) (B:List Nat) (l:iH):Prop where
 len:l.length<=8
 nd:(l.map (·.1)).Nodup
 gp:0<=gap/\gap<=1073741824
 at_: ∃v ms,bT w rb gap v ms/\(kv ms).Perm l/\rb∈B/\(∀g,v.ownBlock=some g->g∈B)/\ ∀x∈ms,x.blk∈B
theorem oz.own{S:List Nat}{w w':World}{rb:Nat}{gap:Int}{B:List Nat}{l:iH}(h:oz w rb gap B l)(ho:ai S w w')(hd: ∀x∈B,x∉S):oz w' rb gap B l:=
 let⟨v,ms,h1,h2,h3,h4,h5⟩:=h.at_
 ⟨h.len,h.nd,h.gp,v,ms,h1.own ho (hd _ h3) (fun g hg=>hd _ (h4 g hg)) (fun x hx=>hd _ (h5 x hx)),h2,h3,h4,h5⟩
theorem oz.nil{w w':World}{rb:Nat}{gap:Int}{B:List Nat}{l:iH}(h:oz w rb gap B l)(ho:ai [] w w'):oz w' rb gap B l:=h.own ho (by simp)
def pK(l:iH)(gap:Int)(key:ByteArray)(now:Int):Bool:=
 ru now&&(match aQ l key with|some t=>decide (gap<=now-t)|none=>decide (l.length<8))
theorem Cc(ms:List Mk)(key:ByteArray):aQ (kv ms) key=(ou ms key).map fun i=>(ms.getD i Mk.dflt).at_:=by
 have h1:(kv ms).findIdx? (fun p=>key==p.1)=ou ms key:=by
  unfold kv ou;rw[List.findIdx?_map]
  congr 1;funext x
  simp only[Function.comp];cases h1:(key==x.key)<;>cases h2:(x.key==key)<;>simp_all
 rw[kg,h1];cases hf:ou ms key with
 |none=>rfl
 |some i=>
  have:=(yV hf).1;simp[kv,List.getD,List.getElem?_eq_getElem this]
theorem Eb{ms:List Mk}{l:iH}(hp:(kv ms).Perm l)(hn:(l.map (·.1)).Nodup):((kv ms).map (·.1)).Nodup:=(hp.map _).nodup_iff.2 hn
theorem P6(rb:Nat)(gap:Int)(B:List Nat)(l:iH)(key:ByteArray)(now:Int)(w:World)(h:oz w rb gap B l):
  Calls Tryz.prog 173 #[.pointer (some ⟨rb,0,none⟩),.string key,.int .i64 now] w fun e w'=>e=.returned (.bool (pK l gap key now))/\ai [] w w':=by
 obtain⟨v,ms,hR,hp,_⟩:=h.at_;have hlen:ms.length<=8:=by have:=hp.length_eq;have:=h.len;simp[kv]at*;omega
 have hll:l.length=ms.length:=by have:=hp.length_eq;simpa[kv]using this.symm
 have c2:w.cell? ⟨rb,2,none⟩=some (.bool true):=cell_of_row w rb 2 _ _ _ hR.row;have hno:=af (lQ rb w true c2);have hti:=af (LU now w);have ahW:=h.gp.1;have ahX:=h.gp.2;unfold pK;have hg:aQ l key=aQ (kv ms) key:=(sG hp (Eb hp h.nd) key).symm;rw[hg,Cc,hll];have F:=AU rb gap v ms key w hR (by omega);unfold G8 at F;cases ht:ru now with
 |false=>
  rw[ht]at hti;rw[Bool.false_and];clear F;go_enter Tryz.func173,Tryz.ntmps173
  go_wp2_with fail
  refine hno.out.mono ?_;rintro e w' ⟨rfl,rfl⟩;go_wp2_with fail
  refine hti.out.mono ?_;rintro e w' ⟨rfl,rfl⟩;go_wp2_with fail
  go_ret
  exact⟨rfl,ai.refl _ _⟩
 |true=>
  rw[ht]at hti;have tF:0<=now/\now<=1073741824:=by simpa[ru]using ht
  obtain⟨hn0,hn1⟩:=tF;cases hf:ou ms key with
  |none=>
   rw[hf]at F;replace F:=af F;have hK:=fun w' (ho:ai [] w w')=>(cell_of_row w' rb 1 _ _ _ (hR.nil ho).row:w'.cell? ⟨rb,1,none⟩=some v)
   obtain⟨a,cap,rfl⟩:=hR.marks.sl;change Hid _ at hK;clear hR hp hf hg ht h;simp only[Option.map_none,Bool.true_and];go_enter Tryz.func173,Tryz.ntmps173
   go_wp2_with fail
   refine hno.out.mono ?_;rintro e w' ⟨rfl,rfl⟩;go_wp2_with fail
   refine hti.out.mono ?_;rintro e w' ⟨rfl,rfl⟩;go_wp2_with fail
   refine F.out.mono ?_;rintro e w2 ⟨rfl,hO2⟩;have c1:=hK.out w2 hO2;go_wp2_with fail
   go_ret
   exact⟨by congr 3;simp[decide_eq_decide];omega,hO2⟩
  |some i=>
   rw[hf]at F;replace F:=af F;obtain⟨hi,hkey⟩:=yV hf;have hK: ∀w',ai [] w w'-> ∃g cap,v=.slice (some ⟨g,0,none⟩) ms.length cap/\w'.cell? ⟨rb,1,none⟩=some v/\w'.cell? ⟨rb,0,none⟩=some (.int .i64 gap)/\
     w'.cell? ⟨g,i,none⟩=some (.pointer (some ⟨(ms.getD i Mk.dflt).blk,0,none⟩))/\w'.cell? ⟨(ms.getD i Mk.dflt).blk,1,none⟩=some (.int .i64 (ms.getD i Mk.dflt).at_):=by
    intro w' ho;have hR':=hR.nil ho;obtain⟨g,cap,cur,hv,hg,hn,hs,hc⟩:=hR'.marks.shape (by omega);have mi:ms.getD i Mk.dflt∈ms:=by simp[List.getD,List.getElem?_eq_getElem hi]
    exact⟨g,cap,hv,cell_of_row w' rb 1 _ _ _ hR'.row,cell_of_row w' rb 0 _ _ _ hR'.row,(cell_of_row w' g i _ _ _ hg).trans (hc i hi),cell_of_row w' _ 1 _ _ _ (hR'.marks.marks _ mi).1⟩
   have mi:ms.getD i Mk.dflt∈ms:=by simp[List.getD,List.getElem?_eq_getElem hi]
   have ht0:=(hR.marks.marks _ mi).2.1;have ht1:=(hR.marks.marks _ mi).2.2;change Hid _ at hK;clear hR hp hf hg ht h mi hkey;simp only[Option.map_some,Bool.true_and];generalize ms.getD i Mk.dflt=x at*;have b1:(0:Int)<=i:=by omega
   have b2:(i:Int)<ms.length:=by omega
   go_enter Tryz.func173,Tryz.ntmps173
   go_wp2_with fail
   refine hno.out.mono ?_;rintro e w' ⟨rfl,rfl⟩;go_wp2_with fail
   refine hti.out.mono ?_;rintro e w' ⟨rfl,rfl⟩;go_wp2_with fail
   refine F.out.mono ?_;rintro e w2 ⟨rfl,hO2⟩;obtain⟨g,cap,rfl,c1,c0,cg,cx⟩:=hK.out w2 hO2;go_wp2_with fail
   go_quiet(fail)
   go_wp2_with fail
   go_ret
   exact⟨rfl,hO2.drewN _⟩
end Go.Proofs.YtedcakchekaemaaGreatDoor
