/- Contracts of the program, part 12. -/
import Derived.Test.YtedcakchekaemaaGreatDoorMp11
set_option maxRecDepth 100000
set_option maxHeartbeats 16000000
set_option linter.all false
namespace Go.Proofs.YtedcakchekaemaaGreatDoor
open Go.RowKit
variable [Kd]
structure jK (w w':World) (b i:Nat) (v:Value):Prop where
 own:ai [b] w w'
 row: ∀(cur:Array Value) (T:TypeId),w.heap[b]?=some (.cells cur T (0,0))->w'.heap[b]?=some (.cells (cur.setIfInBounds i v) T (0,0))
theorem jK.of{w:World}{b i:Nat}{v:Value}(o:Obj):jK w ((w.setCell ⟨b,i,none⟩ v).alloc o) b i v:=
 ⟨((ai.refl [b] w).setCell (.inl (by simp)) _).alloc _,fun cur T h=>((ai.refl [] _).alloc o).heap (heap_setCell_same _ b i _ _ v h) (by simp)⟩
def aP(ok:Bool)(w:World)(b i:Nat)(v:Value)(e:Ending)(w':World):Prop:=
 match ok with
 |true=>e=.returned (.int .i64 0)/\jK w w' b i v
 |false=>(∃ec:Int,ec≠0/\e=.returned (.int .i64 ec))/\ai [] w w'
theorem gM(f:bN)(b i:Nat)(u:Value)(w:World)(hc:w.cell? ⟨b,i,none⟩=some u)(hz:w.frozen? ⟨b,i,none⟩=false):
  Calls Tryz.prog 385 #[.agg (fL f).toArray,.pointer (some ⟨b,i,none⟩)] w (aP (f.kind==2) w b i (.string f.text)):=by
 obtain⟨n,k,v,t⟩:=f;unfold fL;have hlt:=block_lt_of_cell hc;by_cases h2:k=2
 ·subst h2
  have hO:=jK.of (w:=w) (b:=b) (i:=i) (v:=.string t) (.cells #[.int .i64 n,.int .i64 2,.int .u64 v,.string t] 100);go_enter Tryz.func385,Tryz.ntmps385
  go_wp2_with fail
  go_ret
  exact⟨rfl,hO⟩
 ·have q:(k==2)=false:=by simpa using h2
  show Calls _ _ _ _ (aP (k==2) w b i (.string t));rw[q];have hO:=(ai.refl [] w).alloc (.cells #[.int .i64 n,.int .i64 k,.int .u64 v,.string t] 100);go_enter Tryz.func385,Tryz.ntmps385
  go_wp2_with fail
  go_ret
  exact⟨⟨4,by decide,rfl⟩,hO⟩
def fu(ok:Bool)(v:Int)(w:World)(e:Ending)(w':World):Prop:=
 match ok with
 |true=>e=.returned (.tuple #[.int .u64 v,.int .i64 0])/\ai [] w w'
 |false=>(∃ec:Int,ec≠0/\e=.returned (.tuple #[.int .u64 0,.int .i64 ec]))/\ai [] w w'
theorem rG(f:bN)(most:Int)(w:World):
  Calls Tryz.prog 394 #[.agg (fL f).toArray,.int .u64 most] w (fu (f.kind==0&&decide (f.val<=most)) f.val w):=by
 obtain⟨n,k,v,t⟩:=f;unfold fL;have hO:=(ai.refl [] w).alloc (.cells #[.int .i64 n,.int .i64 k,.int .u64 v,.string t] 100);show Calls _ _ _ _ (fu (k==0&&decide (v<=most)) v w);by_cases h0:k=0
 ·subst h0
  by_cases hv:v<=most
  ·have q:decide (v<=most)=true:=by simpa using hv
   have hv': ¬most<v:=by omega
   rw[q];go_enter Tryz.func394,Tryz.ntmps394
   go_wp2_with fail
   go_ret2
   exact⟨rfl,hO⟩
  ·have q:decide (v<=most)=false:=by simpa using hv
   have hv':most<v:=by omega
   rw[q];go_enter Tryz.func394,Tryz.ntmps394
   go_wp2_with fail
   go_ret2
   exact⟨⟨5,by decide,rfl⟩,hO⟩
 ·have q:(k==0)=false:=by simpa using h0
  rw[q];go_enter Tryz.func394,Tryz.ntmps394
  go_wp2_with fail
  go_ret2
  exact⟨⟨4,by decide,rfl⟩,hO⟩
theorem jU{S:List Nat}{w w':World}(h:ai S w w'){b i:Nat}(hb:b<w.heap.size)(hn:b∉S):w'.frozen? ⟨b,i,none⟩=w.frozen? ⟨b,i,none⟩:=by
 have:=h.block b hb hn;unfold World.frozen?;simp only[this]
theorem jK.of2{w w1:World}{b i:Nat}{v:Value}(h:ai [] w w1):jK w (w1.setCell ⟨b,i,none⟩ v) b i v:=
 ⟨h.nil.setCell (.inl (by simp)) _,fun cur T hh=>heap_setCell_same _ b i _ _ v (h.heap hh (by simp))⟩
theorem sI(f:bN)(b i:Nat)(u:Value)(w:World)(hc:w.cell? ⟨b,i,none⟩=some u)(hz:w.frozen? ⟨b,i,none⟩=false):
  Calls Tryz.prog 388 #[.agg (fL f).toArray,.pointer (some ⟨b,i,none⟩)] w (aP (f.kind==0&&decide (f.val<=1)) w b i (.bool (f.val==1))):=by
 have hA:=(ai.refl [] w).alloc (.cells (fL f).toArray 100);have cN:=rG f 1 (w.alloc (.cells (fL f).toArray 100));have hc1:=(hA.cell (block_lt_of_cell hc) (by simp)).trans hc;have hbl:=block_lt_of_cell hc;obtain⟨n,k,v,t⟩:=f;unfold fL at*;simp only at*;obtain⟨ok,hok⟩: ∃ok,(k==0&&decide (v<=1))=ok:=⟨_,rfl⟩;rw[hok]at cN⊢;cases ok
 ·unfold fu at cN
  unfold aP;replace cN:=af cN;replace hA:=af hA;clear hc hc1 hok;go_enter Tryz.func388,Tryz.ntmps388
  go_wp2_with fail
  refine cN.out.mono ?_;rintro e w2 ⟨⟨ec,aD,rfl⟩,hO⟩;have q:(ec==0)=false:=by simpa using aD
  change Hid _ at hO aD;go_wp2_with fail
  go_ret
  exact⟨⟨ec,aD.out,rfl⟩,hA.out.trans hO.out⟩
 ·unfold fu at cN
  unfold aP;replace cN:=af cN;replace hA:=af hA;simp only[Bool.and_eq_true,decide_eq_true_eq]at hok;clear hc;go_enter Tryz.func388,Tryz.ntmps388
  go_wp2_with fail
  refine cN.out.mono ?_;rintro e w2 ⟨rfl,hO⟩;have hc2:=(hO.cell (p:=⟨b,i,none⟩) (by simp;omega) (by simp)).trans hc1;have hO2:=hA.out.trans hO;have hz2:w2.frozen? ⟨b,i,none⟩=false:=(jU hO2 hbl (by simp)).trans hz;have hS:=af (jK.of2 (b:=b) (i:=i) (v:=.bool (v==1)) hO2);clear hc1 hO hO2 hz hok;go_wp2_with fail
  go_ret
  exact⟨rfl,hS.out⟩
theorem zn(f:bN)(b i:Nat)(u:Value)(w:World)(hc:w.cell? ⟨b,i,none⟩=some u)(hz:w.frozen? ⟨b,i,none⟩=false)(h0:0<=f.val):
  Calls Tryz.prog 387 #[.agg (fL f).toArray,.pointer (some ⟨b,i,none⟩)] w (aP (f.kind==0&&decide (f.val<=4294967295)) w b i (.int .u32 f.val)):=by
 have hA:=(ai.refl [] w).alloc (.cells (fL f).toArray 100);have cN:=rG f 4294967295 (w.alloc (.cells (fL f).toArray 100));have hc1:=(hA.cell (block_lt_of_cell hc) (by simp)).trans hc;have hbl:=block_lt_of_cell hc;obtain⟨n,k,v,t⟩:=f;unfold fL at*;simp only at*;obtain⟨ok,hok⟩: ∃ok,(k==0&&decide (v<=4294967295))=ok:=⟨_,rfl⟩;rw[hok]at cN⊢;cases ok
 ·unfold fu at cN
  unfold aP;replace cN:=af cN;replace hA:=af hA;clear hc hc1 hok;go_enter Tryz.func387,Tryz.ntmps387
  go_wp2_with fail
  refine cN.out.mono ?_;rintro e w2 ⟨⟨ec,aD,rfl⟩,hO⟩;have q:(ec==0)=false:=by simpa using aD
  change Hid _ at hO aD;go_wp2_with fail
  go_ret
  exact⟨⟨ec,aD.out,rfl⟩,hA.out.trans hO.out⟩
 ·unfold fu at cN
  unfold aP;replace cN:=af cN;replace hA:=af hA;simp only[Bool.and_eq_true,decide_eq_true_eq]at hok;have hm:v%4294967296=v:=by omega
  clear hc;go_enter Tryz.func387,Tryz.ntmps387
  go_wp2_with fail
  refine cN.out.mono ?_;rintro e w2 ⟨rfl,hO⟩;have hc2:=(hO.cell (p:=⟨b,i,none⟩) (by simp;omega) (by simp)).trans hc1;have hO2:=hA.out.trans hO;have hz2:w2.frozen? ⟨b,i,none⟩=false:=(jU hO2 hbl (by simp)).trans hz;have hS:=af (jK.of2 (b:=b) (i:=i) (v:=.int .u32 v) hO2);clear hc1 hO hO2 hz hok;go_wp2_with fail
  go_ret
  exact⟨rfl,hS.out⟩
theorem Bf(f:bN)(b i:Nat)(u:Value)(w:World)(hc:w.cell? ⟨b,i,none⟩=some u)(hz:w.frozen? ⟨b,i,none⟩=false):
  Calls Tryz.prog 386 #[.agg (fL f).toArray,.pointer (some ⟨b,i,none⟩)] w (aP (f.kind==0&&decide (f.val<=18446744073709551615)) w b i (.int .u64 f.val)):=by
 have hA:=(ai.refl [] w).alloc (.cells (fL f).toArray 100);have cN:=rG f 18446744073709551615 (w.alloc (.cells (fL f).toArray 100));have hc1:=(hA.cell (block_lt_of_cell hc) (by simp)).trans hc;have hbl:=block_lt_of_cell hc;obtain⟨n,k,v,t⟩:=f;unfold fL at*;simp only at*;obtain⟨ok,hok⟩: ∃ok,(k==0&&decide (v<=18446744073709551615))=ok:=⟨_,rfl⟩;rw[hok]at cN⊢;cases ok
 ·unfold fu at cN
  unfold aP;replace cN:=af cN;replace hA:=af hA;clear hc hc1 hok;go_enter Tryz.func386,Tryz.ntmps386
  go_wp2_with fail
  refine cN.out.mono ?_;rintro e w2 ⟨⟨ec,aD,rfl⟩,hO⟩;have q:(ec==0)=false:=by simpa using aD
  change Hid _ at hO aD;go_wp2_with fail
  go_ret
  exact⟨⟨ec,aD.out,rfl⟩,hA.out.trans hO.out⟩
 ·unfold fu at cN
  unfold aP;replace cN:=af cN;replace hA:=af hA;simp only[Bool.and_eq_true,decide_eq_true_eq]at hok;clear hc;go_enter Tryz.func386,Tryz.ntmps386
  go_wp2_with fail
  refine cN.out.mono ?_;rintro e w2 ⟨rfl,hO⟩;have hc2:=(hO.cell (p:=⟨b,i,none⟩) (by simp;omega) (by simp)).trans hc1;have hO2:=hA.out.trans hO;have hz2:w2.frozen? ⟨b,i,none⟩=false:=(jU hO2 hbl (by simp)).trans hz;have hS:=af (jK.of2 (b:=b) (i:=i) (v:=.int .u64 v) hO2);clear hc1 hO hO2 hz hok;go_wp2_with fail
  go_ret
  exact⟨rfl,hS.out⟩
def yh(x:MT):Array Value:=#[.string x.m.name,.bool x.m.has,.int .u64 x.m.al,.int .u64 x.m.time,.int .u32 x.m.ty,.bool x.m.hist,.bool x.m.trans,.bool x.m.null,.slice none 0 0,.slice none 0 0,.int .i64 x.m.v.k,.int .u64 x.m.v.n,.string x.m.v.s,.slice none 0 0,.slice none 0 0,.string x.mta',.bool x.told,.string x.props,.string x.big]
def bO(w:World)(b:Nat)(x:MT):Prop:=w.heap[b]?=some (.cells (yh x) 378 (0,0))
theorem bO.own{S:List Nat}{w w':World}{b:Nat}{x:MT}(h:bO w b x)(ho:ai S w w')(hb:b∉S):bO w' b x:=ai.heap ho h hb
def bM(t:Option MT)(w:World)(b:Nat)(e:Ending)(w':World):Prop:=
 match t with
 |some x=>e=.returned (.int .i64 0)/\bO w' b x/\ai [b] w w'
 |none=>(∃ec:Int,ec≠0/\e=.returned (.int .i64 ec))/\ai [b] w w'
theorem fP{t:Option MT}{w w':World}{b:Nat}{x:MT}(ht:t=some x)(h:bO w' b x)(ho:ai [b] w w'):bM t w b (.returned (.int .i64 0)) w':=by rw[ht];exact⟨rfl,h,ho⟩
theorem eY{t:Option MT}{w w':World}{b:Nat}{ec:Int}(ht:t=none)(h:ec≠0)(ho:ai [b] w w'):bM t w b (.returned (.int .i64 ec)) w':=by rw[ht];exact⟨⟨ec,h,rfl⟩,ho⟩
theorem bO.cell{w:World}{b:Nat}{x:MT}(h:bO w b x)(i:Nat){u:Value}(hu:(yh x)[i]?=some u):w.cell? ⟨b,i,none⟩=some u/\w.frozen? ⟨b,i,none⟩=false:=
 ⟨by rw[cell_of_row _ _ _ _ _ _ h];exact hu,frozen_of_row _ b i _ _ h⟩
theorem bO.set{w w':World}{b i:Nat}{x x':MT}{v:Value}(h:bO w b x)(hs:jK w w' b i v)(hx:(yh x).setIfInBounds i v=yh x'):bO w' b x':=by
 have:=hs.row _ _ h;rw[hx]at this;exact this
theorem VI(b:Nat)(x:MT)(k v:Int)(t:ByteArray)(w:World)(h:bO w b x)(h0:0<=v)(h1:v<=18446744073709551615):
  Calls Tryz.prog 381 #[.pointer (some ⟨b,0,none⟩),.agg #[.int .i64 1,.int .i64 k,.int .u64 v,.string t]] w (bM (bD x ⟨1,k,v,t⟩) w b):=by
 have hms:bD x ⟨1,k,v,t⟩=if k=2 then some ({x with m:={x.m with name:=t}})else none:=by simp[bD]
 generalize bD x ⟨1,k,v,t⟩=R at hms⊢;have hA:=(ai.refl [] w).alloc (.cells #[.int .i64 1,.int .i64 k,.int .u64 v,.string t] 100);have hbl:=aj h;have hM1:bO (w.alloc (.cells #[.int .i64 1,.int .i64 k,.int .u64 v,.string t] 100)) b x:=h.own hA (by simp);obtain⟨⟨d0,d1,d2,d3⟩,_⟩:=q4 (heap_alloc_new w (.cells #[.int .i64 1,.int .i64 k,.int .u64 v,.string t] 100));have cT:=af (fun W' (hm:bO W' b (x))=>gM ⟨1,k,v,t⟩ b 0 _ W' (hm.cell 0 rfl).1 (hm.cell 0 rfl).2);have gH:=af (show bO ((w.alloc (.cells #[.int .i64 1,.int .i64 k,.int .u64 v,.string t] 100))).drew b (x)from hM1);have sW:=af (show ai [b] w ((w.alloc (.cells #[.int .i64 1,.int .i64 k,.int .u64 v,.string t] 100))).drew from(hA.nil).drew);unfold fL at cT;simp only at cT;by_cases hok:k=2
 ·rw[if_pos hok]at hms
  have hb:(k==2)=true:=by simpa using hok
  rw[hb]at cT;unfold aP at cT;change Hid _ at hms;clear hM1 hA h hok hb;go_enter Tryz.func381,Tryz.ntmps381
  go_wp2_with fail
  go_region_held3(fun W=>W.cell? ⟨w.heap.size,0,none⟩=some (.int .i64 1)/\W.cell? ⟨w.heap.size,1,none⟩=some (.int .i64 k)/\W.cell? ⟨w.heap.size,2,none⟩=some (.int .u64 v)/\W.cell? ⟨w.heap.size,3,none⟩=some (.string t)) (go_keep) ((go_at_call 385;(with_reducible refine(cT.out _ (by exact gH.out)).mono ?_);rintro e w2 ⟨rfl,hS⟩;have hM2:=af (gH.out.set (x':={x with m:={x.m with name:=t}}) hS rfl);have hO2:=af (sW.out.trans hS.own);have nI:w2.cell? ⟨w.heap.size,0,none⟩=some (.int .i64 1)/\w2.cell? ⟨w.heap.size,1,none⟩=some (.int .i64 k)/\w2.cell? ⟨w.heap.size,2,none⟩=some (.int .u64 v)/\w2.cell? ⟨w.heap.size,3,none⟩=some (.string t):=⟨(hS.own.cell (block_lt_of_cell d0) (by simp;try omega)).trans d0,(hS.own.cell (block_lt_of_cell d1) (by simp;try omega)).trans d1,(hS.own.cell (block_lt_of_cell d2) (by simp;try omega)).trans d2,(hS.own.cell (block_lt_of_cell d3) (by simp;try omega)).trans d3⟩;clear hS))
  all_goals
   go_wp2_with fail
   go_ret
   exact fP hms.out hM2.out hO2.out
 ·rw[if_neg hok]at hms
  have hb:(k==2)=false:=by
   rw[Bool.eq_false_iff];intro hh;exact hok (by simpa using hh)
  rw[hb]at cT;unfold aP at cT;change Hid _ at hms;clear hM1 hA h hok hb;go_enter Tryz.func381,Tryz.ntmps381
  go_wp2_with fail
  go_region_held3(fun W=>W.cell? ⟨w.heap.size,0,none⟩=some (.int .i64 1)/\W.cell? ⟨w.heap.size,1,none⟩=some (.int .i64 k)/\W.cell? ⟨w.heap.size,2,none⟩=some (.int .u64 v)/\W.cell? ⟨w.heap.size,3,none⟩=some (.string t)) (go_keep) ((go_at_call 385;(with_reducible refine(cT.out _ (by exact gH.out)).mono ?_);rintro e w2 ⟨⟨ec,aD,rfl⟩,hS⟩;have hO2:=af (sW.out.trans hS.nil);replace aD:=af aD;have nI:w2.cell? ⟨w.heap.size,0,none⟩=some (.int .i64 1)/\w2.cell? ⟨w.heap.size,1,none⟩=some (.int .i64 k)/\w2.cell? ⟨w.heap.size,2,none⟩=some (.int .u64 v)/\w2.cell? ⟨w.heap.size,3,none⟩=some (.string t):=⟨(hS.cell (block_lt_of_cell d0) (by simp;try omega)).trans d0,(hS.cell (block_lt_of_cell d1) (by simp;try omega)).trans d1,(hS.cell (block_lt_of_cell d2) (by simp;try omega)).trans d2,(hS.cell (block_lt_of_cell d3) (by simp;try omega)).trans d3⟩;clear hS))
  all_goals
   go_wp2_with fail
   go_ret
   exact eY hms.out aD.out hO2.out
theorem VJ(b:Nat)(x:MT)(k v:Int)(t:ByteArray)(w:World)(h:bO w b x)(h0:0<=v)(h1:v<=18446744073709551615):
  Calls Tryz.prog 381 #[.pointer (some ⟨b,0,none⟩),.agg #[.int .i64 2,.int .i64 k,.int .u64 v,.string t]] w (bM (bD x ⟨2,k,v,t⟩) w b):=by
 have hms:bD x ⟨2,k,v,t⟩=if k=0/\v<=18446744073709551615 then some ({x with m:={x.m with has:=true,al:=v}})else none:=by simp[bD,h1]
 generalize bD x ⟨2,k,v,t⟩=R at hms⊢;have hA:=(ai.refl [] w).alloc (.cells #[.int .i64 2,.int .i64 k,.int .u64 v,.string t] 100);have hbl:=aj h;have hM1:bO (w.alloc (.cells #[.int .i64 2,.int .i64 k,.int .u64 v,.string t] 100)) b x:=h.own hA (by simp);obtain⟨⟨d0,d1,d2,d3⟩,_⟩:=q4 (heap_alloc_new w (.cells #[.int .i64 2,.int .i64 k,.int .u64 v,.string t] 100));obtain⟨ph0,pk0⟩:=h.cell 1 (u:=.bool x.m.has) rfl;obtain⟨pc0,pz0⟩:=hM1.cell 1 (u:=.bool x.m.has) rfl;have hq0:=heap_setCell_same w b 1 _ _ (.bool true) h;have hM2:bO (w.setCell ⟨b,1,none⟩ (.bool true)) b ({x with m:={x.m with has:=true}}):=by
  have hh:=hq0;unfold bO;rw[hh];rfl
 have Az:ai [b] w (w.setCell ⟨b,1,none⟩ (.bool true)):=(ai.refl [b] w).setCell (.inl (by simp)) _;have Gi:ai [b] w ((w.setCell ⟨b,1,none⟩ (.bool true)).alloc (.cells #[.int .i64 2,.int .i64 k,.int .u64 v,.string t] 100)):=Az.alloc _;have eO:bO ((w.setCell ⟨b,1,none⟩ (.bool true)).alloc (.cells #[.int .i64 2,.int .i64 k,.int .u64 v,.string t] 100)) b ({x with m:={x.m with has:=true}}):=hM2.own ((ai.refl [] _).alloc _) (by simp);have hsz:(w.setCell ⟨b,1,none⟩ (.bool true)).heap.size=w.heap.size:=by simp
 have hnew:=heap_alloc_new (w.setCell ⟨b,1,none⟩ (.bool true)) (.cells #[.int .i64 2,.int .i64 k,.int .u64 v,.string t] 100);rw[hsz]at hnew;clear d0 d1 d2 d3;obtain⟨⟨d0,d1,d2,d3⟩,_⟩:=q4 hnew;have cT:=af (fun W' (hm:bO W' b ({x with m:={x.m with has:=true}}))=>Bf ⟨2,k,v,t⟩ b 2 _ W' (hm.cell 2 rfl).1 (hm.cell 2 rfl).2);have gH:=af (show bO (((w.setCell ⟨b,1,none⟩ (.bool true)).alloc (.cells #[.int .i64 2,.int .i64 k,.int .u64 v,.string t] 100))).drew b ({x with m:={x.m with has:=true}})from eO);have sW:=af (show ai [b] w (((w.setCell ⟨b,1,none⟩ (.bool true)).alloc (.cells #[.int .i64 2,.int .i64 k,.int .u64 v,.string t] 100))).drew from(Gi).drew);unfold fL at cT;simp only at cT;by_cases hok:k=0/\v<=18446744073709551615
 ·rw[if_pos hok]at hms
  have hb:(k==0&&decide (v<=18446744073709551615))=true:=by simpa using hok
  rw[hb]at cT;unfold aP at cT;change Hid _ at hms;clear hM1 hA h hok hb hM2 eO Az Gi hnew hsz hq0;go_enter Tryz.func381,Tryz.ntmps381
  go_wp2_with fail
  go_region_held3(fun W=>W.cell? ⟨w.heap.size,0,none⟩=some (.int .i64 2)/\W.cell? ⟨w.heap.size,1,none⟩=some (.int .i64 k)/\W.cell? ⟨w.heap.size,2,none⟩=some (.int .u64 v)/\W.cell? ⟨w.heap.size,3,none⟩=some (.string t)) (go_keep) ((go_at_call 386;(with_reducible refine(cT.out _ (by exact gH.out)).mono ?_);rintro e w2 ⟨rfl,hS⟩;have hM2:=af (gH.out.set (x':={x with m:={x.m with has:=true,al:=v}}) hS rfl);have hO2:=af (sW.out.trans hS.own);have nI:w2.cell? ⟨w.heap.size,0,none⟩=some (.int .i64 2)/\w2.cell? ⟨w.heap.size,1,none⟩=some (.int .i64 k)/\w2.cell? ⟨w.heap.size,2,none⟩=some (.int .u64 v)/\w2.cell? ⟨w.heap.size,3,none⟩=some (.string t):=⟨(hS.own.cell (block_lt_of_cell d0) (by simp;try omega)).trans d0,(hS.own.cell (block_lt_of_cell d1) (by simp;try omega)).trans d1,(hS.own.cell (block_lt_of_cell d2) (by simp;try omega)).trans d2,(hS.own.cell (block_lt_of_cell d3) (by simp;try omega)).trans d3⟩;clear hS))
  all_goals
   go_wp2_with fail
   go_ret
   exact fP hms.out hM2.out hO2.out
 ·rw[if_neg hok]at hms
  have hb:(k==0&&decide (v<=18446744073709551615))=false:=by
   rw[Bool.eq_false_iff];intro hh;exact hok (by simpa using hh)
  rw[hb]at cT;unfold aP at cT;change Hid _ at hms;clear hM1 hA h hok hb hM2 eO Az Gi hnew hsz hq0;go_enter Tryz.func381,Tryz.ntmps381
  go_wp2_with fail
  go_region_held3(fun W=>W.cell? ⟨w.heap.size,0,none⟩=some (.int .i64 2)/\W.cell? ⟨w.heap.size,1,none⟩=some (.int .i64 k)/\W.cell? ⟨w.heap.size,2,none⟩=some (.int .u64 v)/\W.cell? ⟨w.heap.size,3,none⟩=some (.string t)) (go_keep) ((go_at_call 386;(with_reducible refine(cT.out _ (by exact gH.out)).mono ?_);rintro e w2 ⟨⟨ec,aD,rfl⟩,hS⟩;have hO2:=af (sW.out.trans hS.nil);replace aD:=af aD;have nI:w2.cell? ⟨w.heap.size,0,none⟩=some (.int .i64 2)/\w2.cell? ⟨w.heap.size,1,none⟩=some (.int .i64 k)/\w2.cell? ⟨w.heap.size,2,none⟩=some (.int .u64 v)/\w2.cell? ⟨w.heap.size,3,none⟩=some (.string t):=⟨(hS.cell (block_lt_of_cell d0) (by simp;try omega)).trans d0,(hS.cell (block_lt_of_cell d1) (by simp;try omega)).trans d1,(hS.cell (block_lt_of_cell d2) (by simp;try omega)).trans d2,(hS.cell (block_lt_of_cell d3) (by simp;try omega)).trans d3⟩;clear hS))
  all_goals
   go_wp2_with fail
   go_ret
   exact eY hms.out aD.out hO2.out
theorem VK(b:Nat)(x:MT)(k v:Int)(t:ByteArray)(w:World)(h:bO w b x)(h0:0<=v)(h1:v<=18446744073709551615):
  Calls Tryz.prog 381 #[.pointer (some ⟨b,0,none⟩),.agg #[.int .i64 3,.int .i64 k,.int .u64 v,.string t]] w (bM (bD x ⟨3,k,v,t⟩) w b):=by
 have hms:bD x ⟨3,k,v,t⟩=if k=0/\v<=18446744073709551615 then some ({x with m:={x.m with time:=v}})else none:=by simp[bD,h1]
 generalize bD x ⟨3,k,v,t⟩=R at hms⊢;have hA:=(ai.refl [] w).alloc (.cells #[.int .i64 3,.int .i64 k,.int .u64 v,.string t] 100);have hbl:=aj h;have hM1:bO (w.alloc (.cells #[.int .i64 3,.int .i64 k,.int .u64 v,.string t] 100)) b x:=h.own hA (by simp);obtain⟨⟨d0,d1,d2,d3⟩,_⟩:=q4 (heap_alloc_new w (.cells #[.int .i64 3,.int .i64 k,.int .u64 v,.string t] 100));have cT:=af (fun W' (hm:bO W' b (x))=>Bf ⟨3,k,v,t⟩ b 3 _ W' (hm.cell 3 rfl).1 (hm.cell 3 rfl).2);have gH:=af (show bO ((w.alloc (.cells #[.int .i64 3,.int .i64 k,.int .u64 v,.string t] 100))).drew b (x)from hM1);have sW:=af (show ai [b] w ((w.alloc (.cells #[.int .i64 3,.int .i64 k,.int .u64 v,.string t] 100))).drew from(hA.nil).drew);unfold fL at cT;simp only at cT;by_cases hok:k=0/\v<=18446744073709551615
 ·rw[if_pos hok]at hms
  have hb:(k==0&&decide (v<=18446744073709551615))=true:=by simpa using hok
  rw[hb]at cT;unfold aP at cT;change Hid _ at hms;clear hM1 hA h hok hb;go_enter Tryz.func381,Tryz.ntmps381
  go_wp2_with fail
  go_region_held3(fun W=>W.cell? ⟨w.heap.size,0,none⟩=some (.int .i64 3)/\W.cell? ⟨w.heap.size,1,none⟩=some (.int .i64 k)/\W.cell? ⟨w.heap.size,2,none⟩=some (.int .u64 v)/\W.cell? ⟨w.heap.size,3,none⟩=some (.string t)) (go_keep) ((go_at_call 386;(with_reducible refine(cT.out _ (by exact gH.out)).mono ?_);rintro e w2 ⟨rfl,hS⟩;have hM2:=af (gH.out.set (x':={x with m:={x.m with time:=v}}) hS rfl);have hO2:=af (sW.out.trans hS.own);have nI:w2.cell? ⟨w.heap.size,0,none⟩=some (.int .i64 3)/\w2.cell? ⟨w.heap.size,1,none⟩=some (.int .i64 k)/\w2.cell? ⟨w.heap.size,2,none⟩=some (.int .u64 v)/\w2.cell? ⟨w.heap.size,3,none⟩=some (.string t):=⟨(hS.own.cell (block_lt_of_cell d0) (by simp;try omega)).trans d0,(hS.own.cell (block_lt_of_cell d1) (by simp;try omega)).trans d1,(hS.own.cell (block_lt_of_cell d2) (by simp;try omega)).trans d2,(hS.own.cell (block_lt_of_cell d3) (by simp;try omega)).trans d3⟩;clear hS))
  all_goals
   go_wp2_with fail
   go_ret
   exact fP hms.out hM2.out hO2.out
 ·rw[if_neg hok]at hms
  have hb:(k==0&&decide (v<=18446744073709551615))=false:=by
   rw[Bool.eq_false_iff];intro hh;exact hok (by simpa using hh)
  rw[hb]at cT;unfold aP at cT;change Hid _ at hms;clear hM1 hA h hok hb;go_enter Tryz.func381,Tryz.ntmps381
  go_wp2_with fail
  go_region_held3(fun W=>W.cell? ⟨w.heap.size,0,none⟩=some (.int .i64 3)/\W.cell? ⟨w.heap.size,1,none⟩=some (.int .i64 k)/\W.cell? ⟨w.heap.size,2,none⟩=some (.int .u64 v)/\W.cell? ⟨w.heap.size,3,none⟩=some (.string t)) (go_keep) ((go_at_call 386;(with_reducible refine(cT.out _ (by exact gH.out)).mono ?_);rintro e w2 ⟨⟨ec,aD,rfl⟩,hS⟩;have hO2:=af (sW.out.trans hS.nil);replace aD:=af aD;have nI:w2.cell? ⟨w.heap.size,0,none⟩=some (.int .i64 3)/\w2.cell? ⟨w.heap.size,1,none⟩=some (.int .i64 k)/\w2.cell? ⟨w.heap.size,2,none⟩=some (.int .u64 v)/\w2.cell? ⟨w.heap.size,3,none⟩=some (.string t):=⟨(hS.cell (block_lt_of_cell d0) (by simp;try omega)).trans d0,(hS.cell (block_lt_of_cell d1) (by simp;try omega)).trans d1,(hS.cell (block_lt_of_cell d2) (by simp;try omega)).trans d2,(hS.cell (block_lt_of_cell d3) (by simp;try omega)).trans d3⟩;clear hS))
  all_goals
   go_wp2_with fail
   go_ret
   exact eY hms.out aD.out hO2.out
theorem VN(b:Nat)(x:MT)(k v:Int)(t:ByteArray)(w:World)(h:bO w b x)(h0:0<=v)(h1:v<=18446744073709551615):
  Calls Tryz.prog 381 #[.pointer (some ⟨b,0,none⟩),.agg #[.int .i64 4,.int .i64 k,.int .u64 v,.string t]] w (bM (bD x ⟨4,k,v,t⟩) w b):=by
 have hms:bD x ⟨4,k,v,t⟩=if k=0/\v<=4294967295 then some ({x with m:={x.m with ty:=v}})else none:=by simp[bD]
 generalize bD x ⟨4,k,v,t⟩=R at hms⊢;have hA:=(ai.refl [] w).alloc (.cells #[.int .i64 4,.int .i64 k,.int .u64 v,.string t] 100);have hbl:=aj h;have hM1:bO (w.alloc (.cells #[.int .i64 4,.int .i64 k,.int .u64 v,.string t] 100)) b x:=h.own hA (by simp);obtain⟨⟨d0,d1,d2,d3⟩,_⟩:=q4 (heap_alloc_new w (.cells #[.int .i64 4,.int .i64 k,.int .u64 v,.string t] 100));have cT:=af (fun W' (hm:bO W' b (x))=>zn ⟨4,k,v,t⟩ b 4 _ W' (hm.cell 4 rfl).1 (hm.cell 4 rfl).2 h0);have gH:=af (show bO ((w.alloc (.cells #[.int .i64 4,.int .i64 k,.int .u64 v,.string t] 100))).drew b (x)from hM1);have sW:=af (show ai [b] w ((w.alloc (.cells #[.int .i64 4,.int .i64 k,.int .u64 v,.string t] 100))).drew from(hA.nil).drew);unfold fL at cT;simp only at cT;by_cases hok:k=0/\v<=4294967295
 ·rw[if_pos hok]at hms
  have hb:(k==0&&decide (v<=4294967295))=true:=by simpa using hok
  rw[hb]at cT;unfold aP at cT;change Hid _ at hms;clear hM1 hA h hok hb;go_enter Tryz.func381,Tryz.ntmps381
  go_wp2_with fail
  go_region_held3(fun W=>W.cell? ⟨w.heap.size,0,none⟩=some (.int .i64 4)/\W.cell? ⟨w.heap.size,1,none⟩=some (.int .i64 k)/\W.cell? ⟨w.heap.size,2,none⟩=some (.int .u64 v)/\W.cell? ⟨w.heap.size,3,none⟩=some (.string t)) (go_keep) ((go_at_call 387;(with_reducible refine(cT.out _ (by exact gH.out)).mono ?_);rintro e w2 ⟨rfl,hS⟩;have hM2:=af (gH.out.set (x':={x with m:={x.m with ty:=v}}) hS rfl);have hO2:=af (sW.out.trans hS.own);have nI:w2.cell? ⟨w.heap.size,0,none⟩=some (.int .i64 4)/\w2.cell? ⟨w.heap.size,1,none⟩=some (.int .i64 k)/\w2.cell? ⟨w.heap.size,2,none⟩=some (.int .u64 v)/\w2.cell? ⟨w.heap.size,3,none⟩=some (.string t):=⟨(hS.own.cell (block_lt_of_cell d0) (by simp;try omega)).trans d0,(hS.own.cell (block_lt_of_cell d1) (by simp;try omega)).trans d1,(hS.own.cell (block_lt_of_cell d2) (by simp;try omega)).trans d2,(hS.own.cell (block_lt_of_cell d3) (by simp;try omega)).trans d3⟩;clear hS))
  all_goals
   go_wp2_with fail
   go_ret
   exact fP hms.out hM2.out hO2.out
 ·rw[if_neg hok]at hms
  have hb:(k==0&&decide (v<=4294967295))=false:=by
   rw[Bool.eq_false_iff];intro hh;exact hok (by simpa using hh)
  rw[hb]at cT;unfold aP at cT;change Hid _ at hms;clear hM1 hA h hok hb;go_enter Tryz.func381,Tryz.ntmps381
  go_wp2_with fail
  go_region_held3(fun W=>W.cell? ⟨w.heap.size,0,none⟩=some (.int .i64 4)/\W.cell? ⟨w.heap.size,1,none⟩=some (.int .i64 k)/\W.cell? ⟨w.heap.size,2,none⟩=some (.int .u64 v)/\W.cell? ⟨w.heap.size,3,none⟩=some (.string t)) (go_keep) ((go_at_call 387;(with_reducible refine(cT.out _ (by exact gH.out)).mono ?_);rintro e w2 ⟨⟨ec,aD,rfl⟩,hS⟩;have hO2:=af (sW.out.trans hS.nil);replace aD:=af aD;have nI:w2.cell? ⟨w.heap.size,0,none⟩=some (.int .i64 4)/\w2.cell? ⟨w.heap.size,1,none⟩=some (.int .i64 k)/\w2.cell? ⟨w.heap.size,2,none⟩=some (.int .u64 v)/\w2.cell? ⟨w.heap.size,3,none⟩=some (.string t):=⟨(hS.cell (block_lt_of_cell d0) (by simp;try omega)).trans d0,(hS.cell (block_lt_of_cell d1) (by simp;try omega)).trans d1,(hS.cell (block_lt_of_cell d2) (by simp;try omega)).trans d2,(hS.cell (block_lt_of_cell d3) (by simp;try omega)).trans d3⟩;clear hS))
  all_goals
   go_wp2_with fail
   go_ret
   exact eY hms.out aD.out hO2.out
theorem VO(b:Nat)(x:MT)(k v:Int)(t:ByteArray)(w:World)(h:bO w b x)(h0:0<=v)(h1:v<=18446744073709551615):
  Calls Tryz.prog 381 #[.pointer (some ⟨b,0,none⟩),.agg #[.int .i64 5,.int .i64 k,.int .u64 v,.string t]] w (bM (bD x ⟨5,k,v,t⟩) w b):=by
 have hms:bD x ⟨5,k,v,t⟩=if k=0/\v<=1 then some ({x with m:={x.m with hist:=v==1}})else none:=by simp[bD]
 generalize bD x ⟨5,k,v,t⟩=R at hms⊢;have hA:=(ai.refl [] w).alloc (.cells #[.int .i64 5,.int .i64 k,.int .u64 v,.string t] 100);have hbl:=aj h;have hM1:bO (w.alloc (.cells #[.int .i64 5,.int .i64 k,.int .u64 v,.string t] 100)) b x:=h.own hA (by simp);obtain⟨⟨d0,d1,d2,d3⟩,_⟩:=q4 (heap_alloc_new w (.cells #[.int .i64 5,.int .i64 k,.int .u64 v,.string t] 100));have cT:=af (fun W' (hm:bO W' b (x))=>sI ⟨5,k,v,t⟩ b 5 _ W' (hm.cell 5 rfl).1 (hm.cell 5 rfl).2);have gH:=af (show bO ((w.alloc (.cells #[.int .i64 5,.int .i64 k,.int .u64 v,.string t] 100))).drew b (x)from hM1);have sW:=af (show ai [b] w ((w.alloc (.cells #[.int .i64 5,.int .i64 k,.int .u64 v,.string t] 100))).drew from(hA.nil).drew);unfold fL at cT;simp only at cT;by_cases hok:k=0/\v<=1
 ·rw[if_pos hok]at hms
  have hb:(k==0&&decide (v<=1))=true:=by simpa using hok
  rw[hb]at cT;unfold aP at cT;change Hid _ at hms;clear hM1 hA h hok hb;go_enter Tryz.func381,Tryz.ntmps381
  go_wp2_with fail
  go_region_held3(fun W=>W.cell? ⟨w.heap.size,0,none⟩=some (.int .i64 5)/\W.cell? ⟨w.heap.size,1,none⟩=some (.int .i64 k)/\W.cell? ⟨w.heap.size,2,none⟩=some (.int .u64 v)/\W.cell? ⟨w.heap.size,3,none⟩=some (.string t)) (go_keep) ((go_at_call 388;(with_reducible refine(cT.out _ (by exact gH.out)).mono ?_);rintro e w2 ⟨rfl,hS⟩;have hM2:=af (gH.out.set (x':={x with m:={x.m with hist:=v==1}}) hS rfl);have hO2:=af (sW.out.trans hS.own);have nI:w2.cell? ⟨w.heap.size,0,none⟩=some (.int .i64 5)/\w2.cell? ⟨w.heap.size,1,none⟩=some (.int .i64 k)/\w2.cell? ⟨w.heap.size,2,none⟩=some (.int .u64 v)/\w2.cell? ⟨w.heap.size,3,none⟩=some (.string t):=⟨(hS.own.cell (block_lt_of_cell d0) (by simp;try omega)).trans d0,(hS.own.cell (block_lt_of_cell d1) (by simp;try omega)).trans d1,(hS.own.cell (block_lt_of_cell d2) (by simp;try omega)).trans d2,(hS.own.cell (block_lt_of_cell d3) (by simp;try omega)).trans d3⟩;clear hS))
  all_goals
   go_wp2_with fail
   go_ret
   exact fP hms.out hM2.out hO2.out
 ·rw[if_neg hok]at hms
  have hb:(k==0&&decide (v<=1))=false:=by
   rw[Bool.eq_false_iff];intro hh;exact hok (by simpa using hh)
  rw[hb]at cT;unfold aP at cT;change Hid _ at hms;clear hM1 hA h hok hb;go_enter Tryz.func381,Tryz.ntmps381
  go_wp2_with fail
  go_region_held3(fun W=>W.cell? ⟨w.heap.size,0,none⟩=some (.int .i64 5)/\W.cell? ⟨w.heap.size,1,none⟩=some (.int .i64 k)/\W.cell? ⟨w.heap.size,2,none⟩=some (.int .u64 v)/\W.cell? ⟨w.heap.size,3,none⟩=some (.string t)) (go_keep) ((go_at_call 388;(with_reducible refine(cT.out _ (by exact gH.out)).mono ?_);rintro e w2 ⟨⟨ec,aD,rfl⟩,hS⟩;have hO2:=af (sW.out.trans hS.nil);replace aD:=af aD;have nI:w2.cell? ⟨w.heap.size,0,none⟩=some (.int .i64 5)/\w2.cell? ⟨w.heap.size,1,none⟩=some (.int .i64 k)/\w2.cell? ⟨w.heap.size,2,none⟩=some (.int .u64 v)/\w2.cell? ⟨w.heap.size,3,none⟩=some (.string t):=⟨(hS.cell (block_lt_of_cell d0) (by simp;try omega)).trans d0,(hS.cell (block_lt_of_cell d1) (by simp;try omega)).trans d1,(hS.cell (block_lt_of_cell d2) (by simp;try omega)).trans d2,(hS.cell (block_lt_of_cell d3) (by simp;try omega)).trans d3⟩;clear hS))
  all_goals
   go_wp2_with fail
   go_ret
   exact eY hms.out aD.out hO2.out
theorem VP(b:Nat)(x:MT)(k v:Int)(t:ByteArray)(w:World)(h:bO w b x)(h0:0<=v)(h1:v<=18446744073709551615):
  Calls Tryz.prog 381 #[.pointer (some ⟨b,0,none⟩),.agg #[.int .i64 6,.int .i64 k,.int .u64 v,.string t]] w (bM (bD x ⟨6,k,v,t⟩) w b):=by
 have hms:bD x ⟨6,k,v,t⟩=if k=0/\v<=1 then some ({x with m:={x.m with trans:=v==1}})else none:=by simp[bD]
 generalize bD x ⟨6,k,v,t⟩=R at hms⊢;have hA:=(ai.refl [] w).alloc (.cells #[.int .i64 6,.int .i64 k,.int .u64 v,.string t] 100);have hbl:=aj h;have hM1:bO (w.alloc (.cells #[.int .i64 6,.int .i64 k,.int .u64 v,.string t] 100)) b x:=h.own hA (by simp);obtain⟨⟨d0,d1,d2,d3⟩,_⟩:=q4 (heap_alloc_new w (.cells #[.int .i64 6,.int .i64 k,.int .u64 v,.string t] 100));have cT:=af (fun W' (hm:bO W' b (x))=>sI ⟨6,k,v,t⟩ b 6 _ W' (hm.cell 6 rfl).1 (hm.cell 6 rfl).2);have gH:=af (show bO ((w.alloc (.cells #[.int .i64 6,.int .i64 k,.int .u64 v,.string t] 100))).drew b (x)from hM1);have sW:=af (show ai [b] w ((w.alloc (.cells #[.int .i64 6,.int .i64 k,.int .u64 v,.string t] 100))).drew from(hA.nil).drew);unfold fL at cT;simp only at cT;by_cases hok:k=0/\v<=1
 ·rw[if_pos hok]at hms
  have hb:(k==0&&decide (v<=1))=true:=by simpa using hok
  rw[hb]at cT;unfold aP at cT;change Hid _ at hms;clear hM1 hA h hok hb;go_enter Tryz.func381,Tryz.ntmps381
  go_wp2_with fail
  go_region_held3(fun W=>W.cell? ⟨w.heap.size,0,none⟩=some (.int .i64 6)/\W.cell? ⟨w.heap.size,1,none⟩=some (.int .i64 k)/\W.cell? ⟨w.heap.size,2,none⟩=some (.int .u64 v)/\W.cell? ⟨w.heap.size,3,none⟩=some (.string t)) (go_keep) ((go_at_call 388;(with_reducible refine(cT.out _ (by exact gH.out)).mono ?_);rintro e w2 ⟨rfl,hS⟩;have hM2:=af (gH.out.set (x':={x with m:={x.m with trans:=v==1}}) hS rfl);have hO2:=af (sW.out.trans hS.own);have nI:w2.cell? ⟨w.heap.size,0,none⟩=some (.int .i64 6)/\w2.cell? ⟨w.heap.size,1,none⟩=some (.int .i64 k)/\w2.cell? ⟨w.heap.size,2,none⟩=some (.int .u64 v)/\w2.cell? ⟨w.heap.size,3,none⟩=some (.string t):=⟨(hS.own.cell (block_lt_of_cell d0) (by simp;try omega)).trans d0,(hS.own.cell (block_lt_of_cell d1) (by simp;try omega)).trans d1,(hS.own.cell (block_lt_of_cell d2) (by simp;try omega)).trans d2,(hS.own.cell (block_lt_of_cell d3) (by simp;try omega)).trans d3⟩;clear hS))
  all_goals
   go_wp2_with fail
   go_ret
   exact fP hms.out hM2.out hO2.out
 ·rw[if_neg hok]at hms
  have hb:(k==0&&decide (v<=1))=false:=by
   rw[Bool.eq_false_iff];intro hh;exact hok (by simpa using hh)
  rw[hb]at cT;unfold aP at cT;change Hid _ at hms;clear hM1 hA h hok hb;go_enter Tryz.func381,Tryz.ntmps381
  go_wp2_with fail
  go_region_held3(fun W=>W.cell? ⟨w.heap.size,0,none⟩=some (.int .i64 6)/\W.cell? ⟨w.heap.size,1,none⟩=some (.int .i64 k)/\W.cell? ⟨w.heap.size,2,none⟩=some (.int .u64 v)/\W.cell? ⟨w.heap.size,3,none⟩=some (.string t)) (go_keep) ((go_at_call 388;(with_reducible refine(cT.out _ (by exact gH.out)).mono ?_);rintro e w2 ⟨⟨ec,aD,rfl⟩,hS⟩;have hO2:=af (sW.out.trans hS.nil);replace aD:=af aD;have nI:w2.cell? ⟨w.heap.size,0,none⟩=some (.int .i64 6)/\w2.cell? ⟨w.heap.size,1,none⟩=some (.int .i64 k)/\w2.cell? ⟨w.heap.size,2,none⟩=some (.int .u64 v)/\w2.cell? ⟨w.heap.size,3,none⟩=some (.string t):=⟨(hS.cell (block_lt_of_cell d0) (by simp;try omega)).trans d0,(hS.cell (block_lt_of_cell d1) (by simp;try omega)).trans d1,(hS.cell (block_lt_of_cell d2) (by simp;try omega)).trans d2,(hS.cell (block_lt_of_cell d3) (by simp;try omega)).trans d3⟩;clear hS))
  all_goals
   go_wp2_with fail
   go_ret
   exact eY hms.out aD.out hO2.out
theorem VQ(b:Nat)(x:MT)(k v:Int)(t:ByteArray)(w:World)(h:bO w b x)(h0:0<=v)(h1:v<=18446744073709551615):
  Calls Tryz.prog 381 #[.pointer (some ⟨b,0,none⟩),.agg #[.int .i64 7,.int .i64 k,.int .u64 v,.string t]] w (bM (bD x ⟨7,k,v,t⟩) w b):=by
 have hms:bD x ⟨7,k,v,t⟩=if k=0/\v<=1 then some ({x with m:={x.m with null:=v==1}})else none:=by simp[bD]
 generalize bD x ⟨7,k,v,t⟩=R at hms⊢;have hA:=(ai.refl [] w).alloc (.cells #[.int .i64 7,.int .i64 k,.int .u64 v,.string t] 100);have hbl:=aj h;have hM1:bO (w.alloc (.cells #[.int .i64 7,.int .i64 k,.int .u64 v,.string t] 100)) b x:=h.own hA (by simp);obtain⟨⟨d0,d1,d2,d3⟩,_⟩:=q4 (heap_alloc_new w (.cells #[.int .i64 7,.int .i64 k,.int .u64 v,.string t] 100));have cT:=af (fun W' (hm:bO W' b (x))=>sI ⟨7,k,v,t⟩ b 7 _ W' (hm.cell 7 rfl).1 (hm.cell 7 rfl).2);have gH:=af (show bO ((w.alloc (.cells #[.int .i64 7,.int .i64 k,.int .u64 v,.string t] 100))).drew b (x)from hM1);have sW:=af (show ai [b] w ((w.alloc (.cells #[.int .i64 7,.int .i64 k,.int .u64 v,.string t] 100))).drew from(hA.nil).drew);unfold fL at cT;simp only at cT;by_cases hok:k=0/\v<=1
 ·rw[if_pos hok]at hms
  have hb:(k==0&&decide (v<=1))=true:=by simpa using hok
  rw[hb]at cT;unfold aP at cT;change Hid _ at hms;clear hM1 hA h hok hb;go_enter Tryz.func381,Tryz.ntmps381
  go_wp2_with fail
  go_region_held3(fun W=>W.cell? ⟨w.heap.size,0,none⟩=some (.int .i64 7)/\W.cell? ⟨w.heap.size,1,none⟩=some (.int .i64 k)/\W.cell? ⟨w.heap.size,2,none⟩=some (.int .u64 v)/\W.cell? ⟨w.heap.size,3,none⟩=some (.string t)) (go_keep) ((go_at_call 388;(with_reducible refine(cT.out _ (by exact gH.out)).mono ?_);rintro e w2 ⟨rfl,hS⟩;have hM2:=af (gH.out.set (x':={x with m:={x.m with null:=v==1}}) hS rfl);have hO2:=af (sW.out.trans hS.own);have nI:w2.cell? ⟨w.heap.size,0,none⟩=some (.int .i64 7)/\w2.cell? ⟨w.heap.size,1,none⟩=some (.int .i64 k)/\w2.cell? ⟨w.heap.size,2,none⟩=some (.int .u64 v)/\w2.cell? ⟨w.heap.size,3,none⟩=some (.string t):=⟨(hS.own.cell (block_lt_of_cell d0) (by simp;try omega)).trans d0,(hS.own.cell (block_lt_of_cell d1) (by simp;try omega)).trans d1,(hS.own.cell (block_lt_of_cell d2) (by simp;try omega)).trans d2,(hS.own.cell (block_lt_of_cell d3) (by simp;try omega)).trans d3⟩;clear hS))
  all_goals
   go_wp2_with fail
   go_ret
   exact fP hms.out hM2.out hO2.out
 ·rw[if_neg hok]at hms
  have hb:(k==0&&decide (v<=1))=false:=by
   rw[Bool.eq_false_iff];intro hh;exact hok (by simpa using hh)
  rw[hb]at cT;unfold aP at cT;change Hid _ at hms;clear hM1 hA h hok hb;go_enter Tryz.func381,Tryz.ntmps381
  go_wp2_with fail
  go_region_held3(fun W=>W.cell? ⟨w.heap.size,0,none⟩=some (.int .i64 7)/\W.cell? ⟨w.heap.size,1,none⟩=some (.int .i64 k)/\W.cell? ⟨w.heap.size,2,none⟩=some (.int .u64 v)/\W.cell? ⟨w.heap.size,3,none⟩=some (.string t)) (go_keep) ((go_at_call 388;(with_reducible refine(cT.out _ (by exact gH.out)).mono ?_);rintro e w2 ⟨⟨ec,aD,rfl⟩,hS⟩;have hO2:=af (sW.out.trans hS.nil);replace aD:=af aD;have nI:w2.cell? ⟨w.heap.size,0,none⟩=some (.int .i64 7)/\w2.cell? ⟨w.heap.size,1,none⟩=some (.int .i64 k)/\w2.cell? ⟨w.heap.size,2,none⟩=some (.int .u64 v)/\w2.cell? ⟨w.heap.size,3,none⟩=some (.string t):=⟨(hS.cell (block_lt_of_cell d0) (by simp;try omega)).trans d0,(hS.cell (block_lt_of_cell d1) (by simp;try omega)).trans d1,(hS.cell (block_lt_of_cell d2) (by simp;try omega)).trans d2,(hS.cell (block_lt_of_cell d3) (by simp;try omega)).trans d3⟩;clear hS))
  all_goals
   go_wp2_with fail
   go_ret
   exact eY hms.out aD.out hO2.out
theorem VR(b:Nat)(x:MT)(k v:Int)(t:ByteArray)(w:World)(h:bO w b x)(h0:0<=v)(h1:v<=18446744073709551615):
  Calls Tryz.prog 381 #[.pointer (some ⟨b,0,none⟩),.agg #[.int .i64 8,.int .i64 k,.int .u64 v,.string t]] w (bM (bD x ⟨8,k,v,t⟩) w b):=by
 have hms:bD x ⟨8,k,v,t⟩=if k=2 then some ({x with told:=true,mta':=t})else none:=by simp[bD]
 generalize bD x ⟨8,k,v,t⟩=R at hms⊢;have hA:=(ai.refl [] w).alloc (.cells #[.int .i64 8,.int .i64 k,.int .u64 v,.string t] 100);have hbl:=aj h;have hM1:bO (w.alloc (.cells #[.int .i64 8,.int .i64 k,.int .u64 v,.string t] 100)) b x:=h.own hA (by simp);obtain⟨⟨d0,d1,d2,d3⟩,_⟩:=q4 (heap_alloc_new w (.cells #[.int .i64 8,.int .i64 k,.int .u64 v,.string t] 100));obtain⟨ph0,pk0⟩:=h.cell 16 (u:=.bool x.told) rfl;obtain⟨pc0,pz0⟩:=hM1.cell 16 (u:=.bool x.told) rfl;have hq0:=heap_setCell_same w b 16 _ _ (.bool true) h;have hM2:bO (w.setCell ⟨b,16,none⟩ (.bool true)) b ({x with told:=true}):=by
  have hh:=hq0;unfold bO;rw[hh];rfl
 have Az:ai [b] w (w.setCell ⟨b,16,none⟩ (.bool true)):=(ai.refl [b] w).setCell (.inl (by simp)) _;have Gi:ai [b] w ((w.setCell ⟨b,16,none⟩ (.bool true)).alloc (.cells #[.int .i64 8,.int .i64 k,.int .u64 v,.string t] 100)):=Az.alloc _;have eO:bO ((w.setCell ⟨b,16,none⟩ (.bool true)).alloc (.cells #[.int .i64 8,.int .i64 k,.int .u64 v,.string t] 100)) b ({x with told:=true}):=hM2.own ((ai.refl [] _).alloc _) (by simp);have hsz:(w.setCell ⟨b,16,none⟩ (.bool true)).heap.size=w.heap.size:=by simp
 have hnew:=heap_alloc_new (w.setCell ⟨b,16,none⟩ (.bool true)) (.cells #[.int .i64 8,.int .i64 k,.int .u64 v,.string t] 100);rw[hsz]at hnew;clear d0 d1 d2 d3;obtain⟨⟨d0,d1,d2,d3⟩,_⟩:=q4 hnew;have cT:=af (fun W' (hm:bO W' b ({x with told:=true}))=>gM ⟨8,k,v,t⟩ b 15 _ W' (hm.cell 15 rfl).1 (hm.cell 15 rfl).2);have gH:=af (show bO (((w.setCell ⟨b,16,none⟩ (.bool true)).alloc (.cells #[.int .i64 8,.int .i64 k,.int .u64 v,.string t] 100))).drew b ({x with told:=true})from eO);have sW:=af (show ai [b] w (((w.setCell ⟨b,16,none⟩ (.bool true)).alloc (.cells #[.int .i64 8,.int .i64 k,.int .u64 v,.string t] 100))).drew from(Gi).drew);unfold fL at cT;simp only at cT;by_cases hok:k=2
 ·rw[if_pos hok]at hms
  have hb:(k==2)=true:=by simpa using hok
  rw[hb]at cT;unfold aP at cT;change Hid _ at hms;clear hM1 hA h hok hb hM2 eO Az Gi hnew hsz hq0;go_enter Tryz.func381,Tryz.ntmps381
  go_wp2_with fail
  go_region_held3(fun W=>W.cell? ⟨w.heap.size,0,none⟩=some (.int .i64 8)/\W.cell? ⟨w.heap.size,1,none⟩=some (.int .i64 k)/\W.cell? ⟨w.heap.size,2,none⟩=some (.int .u64 v)/\W.cell? ⟨w.heap.size,3,none⟩=some (.string t)) (go_keep) ((go_at_call 385;(with_reducible refine(cT.out _ (by exact gH.out)).mono ?_);rintro e w2 ⟨rfl,hS⟩;have hM2:=af (gH.out.set (x':={x with told:=true,mta':=t}) hS rfl);have hO2:=af (sW.out.trans hS.own);have nI:w2.cell? ⟨w.heap.size,0,none⟩=some (.int .i64 8)/\w2.cell? ⟨w.heap.size,1,none⟩=some (.int .i64 k)/\w2.cell? ⟨w.heap.size,2,none⟩=some (.int .u64 v)/\w2.cell? ⟨w.heap.size,3,none⟩=some (.string t):=⟨(hS.own.cell (block_lt_of_cell d0) (by simp;try omega)).trans d0,(hS.own.cell (block_lt_of_cell d1) (by simp;try omega)).trans d1,(hS.own.cell (block_lt_of_cell d2) (by simp;try omega)).trans d2,(hS.own.cell (block_lt_of_cell d3) (by simp;try omega)).trans d3⟩;clear hS))
  all_goals
   go_wp2_with fail
   go_ret
   exact fP hms.out hM2.out hO2.out
 ·rw[if_neg hok]at hms
  have hb:(k==2)=false:=by
   rw[Bool.eq_false_iff];intro hh;exact hok (by simpa using hh)
  rw[hb]at cT;unfold aP at cT;change Hid _ at hms;clear hM1 hA h hok hb hM2 eO Az Gi hnew hsz hq0;go_enter Tryz.func381,Tryz.ntmps381
  go_wp2_with fail
  go_region_held3(fun W=>W.cell? ⟨w.heap.size,0,none⟩=some (.int .i64 8)/\W.cell? ⟨w.heap.size,1,none⟩=some (.int .i64 k)/\W.cell? ⟨w.heap.size,2,none⟩=some (.int .u64 v)/\W.cell? ⟨w.heap.size,3,none⟩=some (.string t)) (go_keep) ((go_at_call 385;(with_reducible refine(cT.out _ (by exact gH.out)).mono ?_);rintro e w2 ⟨⟨ec,aD,rfl⟩,hS⟩;have hO2:=af (sW.out.trans hS.nil);replace aD:=af aD;have nI:w2.cell? ⟨w.heap.size,0,none⟩=some (.int .i64 8)/\w2.cell? ⟨w.heap.size,1,none⟩=some (.int .i64 k)/\w2.cell? ⟨w.heap.size,2,none⟩=some (.int .u64 v)/\w2.cell? ⟨w.heap.size,3,none⟩=some (.string t):=⟨(hS.cell (block_lt_of_cell d0) (by simp;try omega)).trans d0,(hS.cell (block_lt_of_cell d1) (by simp;try omega)).trans d1,(hS.cell (block_lt_of_cell d2) (by simp;try omega)).trans d2,(hS.cell (block_lt_of_cell d3) (by simp;try omega)).trans d3⟩;clear hS))
  all_goals
   go_wp2_with fail
   go_ret
   exact eY hms.out aD.out hO2.out
theorem VS(b:Nat)(x:MT)(k v:Int)(t:ByteArray)(w:World)(h:bO w b x)(h0:0<=v)(h1:v<=18446744073709551615):
  Calls Tryz.prog 381 #[.pointer (some ⟨b,0,none⟩),.agg #[.int .i64 9,.int .i64 k,.int .u64 v,.string t]] w (bM (bD x ⟨9,k,v,t⟩) w b):=by
 have hms:bD x ⟨9,k,v,t⟩=if k=2 then some ({x with props:=t})else none:=by simp[bD]
 generalize bD x ⟨9,k,v,t⟩=R at hms⊢;have hA:=(ai.refl [] w).alloc (.cells #[.int .i64 9,.int .i64 k,.int .u64 v,.string t] 100);have hbl:=aj h;have hM1:bO (w.alloc (.cells #[.int .i64 9,.int .i64 k,.int .u64 v,.string t] 100)) b x:=h.own hA (by simp);obtain⟨⟨d0,d1,d2,d3⟩,_⟩:=q4 (heap_alloc_new w (.cells #[.int .i64 9,.int .i64 k,.int .u64 v,.string t] 100));have cT:=af (fun W' (hm:bO W' b (x))=>gM ⟨9,k,v,t⟩ b 17 _ W' (hm.cell 17 rfl).1 (hm.cell 17 rfl).2);have gH:=af (show bO ((w.alloc (.cells #[.int .i64 9,.int .i64 k,.int .u64 v,.string t] 100))).drew b (x)from hM1);have sW:=af (show ai [b] w ((w.alloc (.cells #[.int .i64 9,.int .i64 k,.int .u64 v,.string t] 100))).drew from(hA.nil).drew);unfold fL at cT;simp only at cT;by_cases hok:k=2
 ·rw[if_pos hok]at hms
  have hb:(k==2)=true:=by simpa using hok
  rw[hb]at cT;unfold aP at cT;change Hid _ at hms;clear hM1 hA h hok hb;go_enter Tryz.func381,Tryz.ntmps381
  go_wp2_with fail
  go_region_held3(fun W=>W.cell? ⟨w.heap.size,0,none⟩=some (.int .i64 9)/\W.cell? ⟨w.heap.size,1,none⟩=some (.int .i64 k)/\W.cell? ⟨w.heap.size,2,none⟩=some (.int .u64 v)/\W.cell? ⟨w.heap.size,3,none⟩=some (.string t)) (go_keep) ((go_at_call 385;(with_reducible refine(cT.out _ (by exact gH.out)).mono ?_);rintro e w2 ⟨rfl,hS⟩;have hM2:=af (gH.out.set (x':={x with props:=t}) hS rfl);have hO2:=af (sW.out.trans hS.own);have nI:w2.cell? ⟨w.heap.size,0,none⟩=some (.int .i64 9)/\w2.cell? ⟨w.heap.size,1,none⟩=some (.int .i64 k)/\w2.cell? ⟨w.heap.size,2,none⟩=some (.int .u64 v)/\w2.cell? ⟨w.heap.size,3,none⟩=some (.string t):=⟨(hS.own.cell (block_lt_of_cell d0) (by simp;try omega)).trans d0,(hS.own.cell (block_lt_of_cell d1) (by simp;try omega)).trans d1,(hS.own.cell (block_lt_of_cell d2) (by simp;try omega)).trans d2,(hS.own.cell (block_lt_of_cell d3) (by simp;try omega)).trans d3⟩;clear hS))
  all_goals
   go_wp2_with fail
   go_ret
   exact fP hms.out hM2.out hO2.out
 ·rw[if_neg hok]at hms
  have hb:(k==2)=false:=by
   rw[Bool.eq_false_iff];intro hh;exact hok (by simpa using hh)
  rw[hb]at cT;unfold aP at cT;change Hid _ at hms;clear hM1 hA h hok hb;go_enter Tryz.func381,Tryz.ntmps381
  go_wp2_with fail
  go_region_held3(fun W=>W.cell? ⟨w.heap.size,0,none⟩=some (.int .i64 9)/\W.cell? ⟨w.heap.size,1,none⟩=some (.int .i64 k)/\W.cell? ⟨w.heap.size,2,none⟩=some (.int .u64 v)/\W.cell? ⟨w.heap.size,3,none⟩=some (.string t)) (go_keep) ((go_at_call 385;(with_reducible refine(cT.out _ (by exact gH.out)).mono ?_);rintro e w2 ⟨⟨ec,aD,rfl⟩,hS⟩;have hO2:=af (sW.out.trans hS.nil);replace aD:=af aD;have nI:w2.cell? ⟨w.heap.size,0,none⟩=some (.int .i64 9)/\w2.cell? ⟨w.heap.size,1,none⟩=some (.int .i64 k)/\w2.cell? ⟨w.heap.size,2,none⟩=some (.int .u64 v)/\w2.cell? ⟨w.heap.size,3,none⟩=some (.string t):=⟨(hS.cell (block_lt_of_cell d0) (by simp;try omega)).trans d0,(hS.cell (block_lt_of_cell d1) (by simp;try omega)).trans d1,(hS.cell (block_lt_of_cell d2) (by simp;try omega)).trans d2,(hS.cell (block_lt_of_cell d3) (by simp;try omega)).trans d3⟩;clear hS))
  all_goals
   go_wp2_with fail
   go_ret
   exact eY hms.out aD.out hO2.out
theorem QN(b:Nat)(x:MT)(k v:Int)(t:ByteArray)(w:World)(h:bO w b x)(h0:0<=v)(h1:v<=18446744073709551615):
  Calls Tryz.prog 381 #[.pointer (some ⟨b,0,none⟩),.agg #[.int .i64 17,.int .i64 k,.int .u64 v,.string t]] w (bM (bD x ⟨17,k,v,t⟩) w b):=by
 have hms:bD x ⟨17,k,v,t⟩=if k=2 then some ({x with m:={x.m with v:=⟨8,0,⟨#[]⟩⟩},big:=t})else none:=by simp[bD]
 generalize bD x ⟨17,k,v,t⟩=R at hms⊢;have hA:=(ai.refl [] w).alloc (.cells #[.int .i64 17,.int .i64 k,.int .u64 v,.string t] 100);have hbl:=aj h;have hM1:bO (w.alloc (.cells #[.int .i64 17,.int .i64 k,.int .u64 v,.string t] 100)) b x:=h.own hA (by simp);obtain⟨⟨d0,d1,d2,d3⟩,_⟩:=q4 (heap_alloc_new w (.cells #[.int .i64 17,.int .i64 k,.int .u64 v,.string t] 100));obtain⟨ph0,pk0⟩:=h.cell 10 (u:=.int .i64 x.m.v.k) rfl;obtain⟨pc0,pz0⟩:=hM1.cell 10 (u:=.int .i64 x.m.v.k) rfl;have hq0:=heap_setCell_same w b 10 _ _ (.int .i64 8) h;obtain⟨ph1,pk1⟩:=h.cell 11 (u:=.int .u64 x.m.v.n) rfl;obtain⟨pc1,pz1⟩:=hM1.cell 11 (u:=.int .u64 x.m.v.n) rfl;have hq1:=heap_setCell_same (w.setCell ⟨b,10,none⟩ (.int .i64 8)) b 11 _ _ (.int .u64 0) hq0;obtain⟨ph2,pk2⟩:=h.cell 12 (u:=.string x.m.v.s) rfl;obtain⟨pc2,pz2⟩:=hM1.cell 12 (u:=.string x.m.v.s) rfl;have hq2:=heap_setCell_same ((w.setCell ⟨b,10,none⟩ (.int .i64 8)).setCell ⟨b,11,none⟩ (.int .u64 0)) b 12 _ _ (.string ⟨#[]⟩) hq1;have hM2:bO (((w.setCell ⟨b,10,none⟩ (.int .i64 8)).setCell ⟨b,11,none⟩ (.int .u64 0)).setCell ⟨b,12,none⟩ (.string ⟨#[]⟩)) b ({x with m:={x.m with v:=⟨8,0,⟨#[]⟩⟩}}):=by
  have hh:=hq2;unfold bO;rw[hh];rfl
 have Az:ai [b] w (((w.setCell ⟨b,10,none⟩ (.int .i64 8)).setCell ⟨b,11,none⟩ (.int .u64 0)).setCell ⟨b,12,none⟩ (.string ⟨#[]⟩)):=(((ai.refl [b] w).setCell (.inl (by simp)) _).setCell (.inl (by simp)) _).setCell (.inl (by simp)) _;have Gi:ai [b] w ((((w.setCell ⟨b,10,none⟩ (.int .i64 8)).setCell ⟨b,11,none⟩ (.int .u64 0)).setCell ⟨b,12,none⟩ (.string ⟨#[]⟩)).alloc (.cells #[.int .i64 17,.int .i64 k,.int .u64 v,.string t] 100)):=Az.alloc _;have eO:bO ((((w.setCell ⟨b,10,none⟩ (.int .i64 8)).setCell ⟨b,11,none⟩ (.int .u64 0)).setCell ⟨b,12,none⟩ (.string ⟨#[]⟩)).alloc (.cells #[.int .i64 17,.int .i64 k,.int .u64 v,.string t] 100)) b ({x with m:={x.m with v:=⟨8,0,⟨#[]⟩⟩}}):=hM2.own ((ai.refl [] _).alloc _) (by simp);have hsz:(((w.setCell ⟨b,10,none⟩ (.int .i64 8)).setCell ⟨b,11,none⟩ (.int .u64 0)).setCell ⟨b,12,none⟩ (.string ⟨#[]⟩)).heap.size=w.heap.size:=by simp
 have hnew:=heap_alloc_new (((w.setCell ⟨b,10,none⟩ (.int .i64 8)).setCell ⟨b,11,none⟩ (.int .u64 0)).setCell ⟨b,12,none⟩ (.string ⟨#[]⟩)) (.cells #[.int .i64 17,.int .i64 k,.int .u64 v,.string t] 100);rw[hsz]at hnew;clear d0 d1 d2 d3;obtain⟨⟨d0,d1,d2,d3⟩,_⟩:=q4 hnew;have cT:=af (fun W' (hm:bO W' b ({x with m:={x.m with v:=⟨8,0,⟨#[]⟩⟩}}))=>gM ⟨17,k,v,t⟩ b 18 _ W' (hm.cell 18 rfl).1 (hm.cell 18 rfl).2);have gH:=af (show bO (((((w.setCell ⟨b,10,none⟩ (.int .i64 8)).setCell ⟨b,11,none⟩ (.int .u64 0)).setCell ⟨b,12,none⟩ (.string ⟨#[]⟩)).alloc (.cells #[.int .i64 17,.int .i64 k,.int .u64 v,.string t] 100))).drew b ({x with m:={x.m with v:=⟨8,0,⟨#[]⟩⟩}})from eO);have sW:=af (show ai [b] w (((((w.setCell ⟨b,10,none⟩ (.int .i64 8)).setCell ⟨b,11,none⟩ (.int .u64 0)).setCell ⟨b,12,none⟩ (.string ⟨#[]⟩)).alloc (.cells #[.int .i64 17,.int .i64 k,.int .u64 v,.string t] 100))).drew from(Gi).drew);unfold fL at cT;simp only at cT;by_cases hok:k=2
 ·rw[if_pos hok]at hms
  have hb:(k==2)=true:=by simpa using hok
  rw[hb]at cT;unfold aP at cT;change Hid _ at hms;clear hM1 hA h hok hb hM2 eO Az Gi hnew hsz hq0 hq1 hq2;go_enter Tryz.func381,Tryz.ntmps381
  go_wp2_with fail
  go_region_held3(fun W=>W.cell? ⟨w.heap.size,0,none⟩=some (.int .i64 17)/\W.cell? ⟨w.heap.size,1,none⟩=some (.int .i64 k)/\W.cell? ⟨w.heap.size,2,none⟩=some (.int .u64 v)/\W.cell? ⟨w.heap.size,3,none⟩=some (.string t)) (go_keep) ((go_at_call 385;(with_reducible refine(cT.out _ (by exact gH.out)).mono ?_);rintro e w2 ⟨rfl,hS⟩;have hM2:=af (gH.out.set (x':={x with m:={x.m with v:=⟨8,0,⟨#[]⟩⟩},big:=t}) hS rfl);have hO2:=af (sW.out.trans hS.own);have nI:w2.cell? ⟨w.heap.size,0,none⟩=some (.int .i64 17)/\w2.cell? ⟨w.heap.size,1,none⟩=some (.int .i64 k)/\w2.cell? ⟨w.heap.size,2,none⟩=some (.int .u64 v)/\w2.cell? ⟨w.heap.size,3,none⟩=some (.string t):=⟨(hS.own.cell (block_lt_of_cell d0) (by simp;try omega)).trans d0,(hS.own.cell (block_lt_of_cell d1) (by simp;try omega)).trans d1,(hS.own.cell (block_lt_of_cell d2) (by simp;try omega)).trans d2,(hS.own.cell (block_lt_of_cell d3) (by simp;try omega)).trans d3⟩;clear hS))
  all_goals
   go_wp2_with fail
   go_ret
   exact fP hms.out hM2.out hO2.out
 ·rw[if_neg hok]at hms
  have hb:(k==2)=false:=by
   rw[Bool.eq_false_iff];intro hh;exact hok (by simpa using hh)
  rw[hb]at cT;unfold aP at cT;change Hid _ at hms;clear hM1 hA h hok hb hM2 eO Az Gi hnew hsz hq0 hq1 hq2;go_enter Tryz.func381,Tryz.ntmps381
  go_wp2_with fail
  go_region_held3(fun W=>W.cell? ⟨w.heap.size,0,none⟩=some (.int .i64 17)/\W.cell? ⟨w.heap.size,1,none⟩=some (.int .i64 k)/\W.cell? ⟨w.heap.size,2,none⟩=some (.int .u64 v)/\W.cell? ⟨w.heap.size,3,none⟩=some (.string t)) (go_keep) ((go_at_call 385;(with_reducible refine(cT.out _ (by exact gH.out)).mono ?_);rintro e w2 ⟨⟨ec,aD,rfl⟩,hS⟩;have hO2:=af (sW.out.trans hS.nil);replace aD:=af aD;have nI:w2.cell? ⟨w.heap.size,0,none⟩=some (.int .i64 17)/\w2.cell? ⟨w.heap.size,1,none⟩=some (.int .i64 k)/\w2.cell? ⟨w.heap.size,2,none⟩=some (.int .u64 v)/\w2.cell? ⟨w.heap.size,3,none⟩=some (.string t):=⟨(hS.cell (block_lt_of_cell d0) (by simp;try omega)).trans d0,(hS.cell (block_lt_of_cell d1) (by simp;try omega)).trans d1,(hS.cell (block_lt_of_cell d2) (by simp;try omega)).trans d2,(hS.cell (block_lt_of_cell d3) (by simp;try omega)).trans d3⟩;clear hS))
  all_goals
   go_wp2_with fail
   go_ret
   exact eY hms.out aD.out hO2.out
theorem QO(b:Nat)(x:MT)(k v:Int)(t:ByteArray)(w:World)(h:bO w b x)(h0:0<=v)(h1:v<=18446744073709551615):
  Calls Tryz.prog 381 #[.pointer (some ⟨b,0,none⟩),.agg #[.int .i64 18,.int .i64 k,.int .u64 v,.string t]] w (bM (bD x ⟨18,k,v,t⟩) w b):=by
 have hms:bD x ⟨18,k,v,t⟩=if k=2 then some ({x with m:={x.m with v:=⟨9,0,⟨#[]⟩⟩},big:=t})else none:=by simp[bD]
 generalize bD x ⟨18,k,v,t⟩=R at hms⊢;have hA:=(ai.refl [] w).alloc (.cells #[.int .i64 18,.int .i64 k,.int .u64 v,.string t] 100);have hbl:=aj h;have hM1:bO (w.alloc (.cells #[.int .i64 18,.int .i64 k,.int .u64 v,.string t] 100)) b x:=h.own hA (by simp);obtain⟨⟨d0,d1,d2,d3⟩,_⟩:=q4 (heap_alloc_new w (.cells #[.int .i64 18,.int .i64 k,.int .u64 v,.string t] 100));obtain⟨ph0,pk0⟩:=h.cell 10 (u:=.int .i64 x.m.v.k) rfl;obtain⟨pc0,pz0⟩:=hM1.cell 10 (u:=.int .i64 x.m.v.k) rfl;have hq0:=heap_setCell_same w b 10 _ _ (.int .i64 9) h;obtain⟨ph1,pk1⟩:=h.cell 11 (u:=.int .u64 x.m.v.n) rfl;obtain⟨pc1,pz1⟩:=hM1.cell 11 (u:=.int .u64 x.m.v.n) rfl;have hq1:=heap_setCell_same (w.setCell ⟨b,10,none⟩ (.int .i64 9)) b 11 _ _ (.int .u64 0) hq0;obtain⟨ph2,pk2⟩:=h.cell 12 (u:=.string x.m.v.s) rfl;obtain⟨pc2,pz2⟩:=hM1.cell 12 (u:=.string x.m.v.s) rfl;have hq2:=heap_setCell_same ((w.setCell ⟨b,10,none⟩ (.int .i64 9)).setCell ⟨b,11,none⟩ (.int .u64 0)) b 12 _ _ (.string ⟨#[]⟩) hq1;have hM2:bO (((w.setCell ⟨b,10,none⟩ (.int .i64 9)).setCell ⟨b,11,none⟩ (.int .u64 0)).setCell ⟨b,12,none⟩ (.string ⟨#[]⟩)) b ({x with m:={x.m with v:=⟨9,0,⟨#[]⟩⟩}}):=by
  have hh:=hq2;unfold bO;rw[hh];rfl
 have Az:ai [b] w (((w.setCell ⟨b,10,none⟩ (.int .i64 9)).setCell ⟨b,11,none⟩ (.int .u64 0)).setCell ⟨b,12,none⟩ (.string ⟨#[]⟩)):=(((ai.refl [b] w).setCell (.inl (by simp)) _).setCell (.inl (by simp)) _).setCell (.inl (by simp)) _;have Gi:ai [b] w ((((w.setCell ⟨b,10,none⟩ (.int .i64 9)).setCell ⟨b,11,none⟩ (.int .u64 0)).setCell ⟨b,12,none⟩ (.string ⟨#[]⟩)).alloc (.cells #[.int .i64 18,.int .i64 k,.int .u64 v,.string t] 100)):=Az.alloc _;have eO:bO ((((w.setCell ⟨b,10,none⟩ (.int .i64 9)).setCell ⟨b,11,none⟩ (.int .u64 0)).setCell ⟨b,12,none⟩ (.string ⟨#[]⟩)).alloc (.cells #[.int .i64 18,.int .i64 k,.int .u64 v,.string t] 100)) b ({x with m:={x.m with v:=⟨9,0,⟨#[]⟩⟩}}):=hM2.own ((ai.refl [] _).alloc _) (by simp);have hsz:(((w.setCell ⟨b,10,none⟩ (.int .i64 9)).setCell ⟨b,11,none⟩ (.int .u64 0)).setCell ⟨b,12,none⟩ (.string ⟨#[]⟩)).heap.size=w.heap.size:=by simp
 have hnew:=heap_alloc_new (((w.setCell ⟨b,10,none⟩ (.int .i64 9)).setCell ⟨b,11,none⟩ (.int .u64 0)).setCell ⟨b,12,none⟩ (.string ⟨#[]⟩)) (.cells #[.int .i64 18,.int .i64 k,.int .u64 v,.string t] 100);rw[hsz]at hnew;clear d0 d1 d2 d3;obtain⟨⟨d0,d1,d2,d3⟩,_⟩:=q4 hnew;have cT:=af (fun W' (hm:bO W' b ({x with m:={x.m with v:=⟨9,0,⟨#[]⟩⟩}}))=>gM ⟨18,k,v,t⟩ b 18 _ W' (hm.cell 18 rfl).1 (hm.cell 18 rfl).2);have gH:=af (show bO (((((w.setCell ⟨b,10,none⟩ (.int .i64 9)).setCell ⟨b,11,none⟩ (.int .u64 0)).setCell ⟨b,12,none⟩ (.string ⟨#[]⟩)).alloc (.cells #[.int .i64 18,.int .i64 k,.int .u64 v,.string t] 100))).drew b ({x with m:={x.m with v:=⟨9,0,⟨#[]⟩⟩}})from eO);have sW:=af (show ai [b] w (((((w.setCell ⟨b,10,none⟩ (.int .i64 9)).setCell ⟨b,11,none⟩ (.int .u64 0)).setCell ⟨b,12,none⟩ (.string ⟨#[]⟩)).alloc (.cells #[.int .i64 18,.int .i64 k,.int .u64 v,.string t] 100))).drew from(Gi).drew);unfold fL at cT;simp only at cT;by_cases hok:k=2
 ·rw[if_pos hok]at hms
  have hb:(k==2)=true:=by simpa using hok
  rw[hb]at cT;unfold aP at cT;change Hid _ at hms;clear hM1 hA h hok hb hM2 eO Az Gi hnew hsz hq0 hq1 hq2;go_enter Tryz.func381,Tryz.ntmps381
  go_wp2_with fail
  go_region_held3(fun W=>W.cell? ⟨w.heap.size,0,none⟩=some (.int .i64 18)/\W.cell? ⟨w.heap.size,1,none⟩=some (.int .i64 k)/\W.cell? ⟨w.heap.size,2,none⟩=some (.int .u64 v)/\W.cell? ⟨w.heap.size,3,none⟩=some (.string t)) (go_keep) ((go_at_call 385;(with_reducible refine(cT.out _ (by exact gH.out)).mono ?_);rintro e w2 ⟨rfl,hS⟩;have hM2:=af (gH.out.set (x':={x with m:={x.m with v:=⟨9,0,⟨#[]⟩⟩},big:=t}) hS rfl);have hO2:=af (sW.out.trans hS.own);have nI:w2.cell? ⟨w.heap.size,0,none⟩=some (.int .i64 18)/\w2.cell? ⟨w.heap.size,1,none⟩=some (.int .i64 k)/\w2.cell? ⟨w.heap.size,2,none⟩=some (.int .u64 v)/\w2.cell? ⟨w.heap.size,3,none⟩=some (.string t):=⟨(hS.own.cell (block_lt_of_cell d0) (by simp;try omega)).trans d0,(hS.own.cell (block_lt_of_cell d1) (by simp;try omega)).trans d1,(hS.own.cell (block_lt_of_cell d2) (by simp;try omega)).trans d2,(hS.own.cell (block_lt_of_cell d3) (by simp;try omega)).trans d3⟩;clear hS))
  all_goals
   go_wp2_with fail
   go_ret
   exact fP hms.out hM2.out hO2.out
 ·rw[if_neg hok]at hms
  have hb:(k==2)=false:=by
   rw[Bool.eq_false_iff];intro hh;exact hok (by simpa using hh)
  rw[hb]at cT;unfold aP at cT;change Hid _ at hms;clear hM1 hA h hok hb hM2 eO Az Gi hnew hsz hq0 hq1 hq2;go_enter Tryz.func381,Tryz.ntmps381
  go_wp2_with fail
  go_region_held3(fun W=>W.cell? ⟨w.heap.size,0,none⟩=some (.int .i64 18)/\W.cell? ⟨w.heap.size,1,none⟩=some (.int .i64 k)/\W.cell? ⟨w.heap.size,2,none⟩=some (.int .u64 v)/\W.cell? ⟨w.heap.size,3,none⟩=some (.string t)) (go_keep) ((go_at_call 385;(with_reducible refine(cT.out _ (by exact gH.out)).mono ?_);rintro e w2 ⟨⟨ec,aD,rfl⟩,hS⟩;have hO2:=af (sW.out.trans hS.nil);replace aD:=af aD;have nI:w2.cell? ⟨w.heap.size,0,none⟩=some (.int .i64 18)/\w2.cell? ⟨w.heap.size,1,none⟩=some (.int .i64 k)/\w2.cell? ⟨w.heap.size,2,none⟩=some (.int .u64 v)/\w2.cell? ⟨w.heap.size,3,none⟩=some (.string t):=⟨(hS.cell (block_lt_of_cell d0) (by simp;try omega)).trans d0,(hS.cell (block_lt_of_cell d1) (by simp;try omega)).trans d1,(hS.cell (block_lt_of_cell d2) (by simp;try omega)).trans d2,(hS.cell (block_lt_of_cell d3) (by simp;try omega)).trans d3⟩;clear hS))
  all_goals
   go_wp2_with fail
   go_ret
   exact eY hms.out aD.out hO2.out
end Go.Proofs.YtedcakchekaemaaGreatDoor
