import Derived.Test.YtedcakchekaemaaGreatDoorMn15
set_option maxRecDepth 100000
set_option maxHeartbeats 16000000
set_option linter.all false
namespace Go.Proofs.YtedcakchekaemaaGreatDoor
open Go.RowKit
variable [Kd]
def wC(x:MT):Array Value:=#[.string x.m.name,.bool x.m.has,.int .u64 x.m.al,.int .u64 x.m.time,.int .u32 x.m.ty,.bool x.m.hist,.bool x.m.trans,.bool x.m.null,.slice none 0 0,.slice none 0 0,.int .i64 x.m.v.k,.int .u64 x.m.v.n,.string x.m.v.s,.slice none 0 0,.slice none 0 0,.string x.meta',.bool x.told,.string x.props,.string x.big]
def bH(w:World)(b:Nat)(x:MT):Prop:=w.heap[b]?=some (.cells (wC x) 378 (0,0))
theorem bH.own{S:List Nat}{w w':World}{b:Nat}{x:MT}(h:bH w b x)(ho:ai S w w')(hb:b∉S):bH w' b x:=ai.heap ho h hb
def bF(t:Option MT)(w:World)(b:Nat)(e:Ending)(w':World):Prop:=
 match t with
 |some x=>e=.returned (.int .i64 0)/\bH w' b x/\ai [b] w w'
 |none=>(∃ec:Int,ec≠0/\e=.returned (.int .i64 ec))/\ai [b] w w'
theorem fw{t:Option MT}{w w':World}{b:Nat}{x:MT}(ht:t=some x)(h:bH w' b x)(ho:ai [b] w w'):bF t w b (.returned (.int .i64 0)) w':=by rw[ht];exact⟨rfl,h,ho⟩
theorem dZ{t:Option MT}{w w':World}{b:Nat}{ec:Int}(ht:t=none)(h:ec≠0)(ho:ai [b] w w'):bF t w b (.returned (.int .i64 ec)) w':=by rw[ht];exact⟨⟨ec,h,rfl⟩,ho⟩
theorem bH.cell{w:World}{b:Nat}{x:MT}(h:bH w b x)(i:Nat){u:Value}(hu:(wC x)[i]?=some u):w.cell? ⟨b,i,none⟩=some u/\w.frozen? ⟨b,i,none⟩=false:=
 ⟨by rw[cell_of_row _ _ _ _ _ _ h];exact hu,frozen_of_row _ b i _ _ h⟩
theorem bH.set{w w':World}{b i:Nat}{x x':MT}{v:Value}(h:bH w b x)(hs:jh w w' b i v)(hx:(wC x).setIfInBounds i v=wC x'):bH w' b x':=by
 have:=hs.row _ _ h;rw[hx]at this;exact this
theorem RQ(b:Nat)(x:MT)(k v:Int)(t:ByteArray)(w:World)(h:bH w b x)(h0:0<=v)(h1:v<=18446744073709551615):
  Calls Tryz.prog 381 #[.pointer (some ⟨b,0,none⟩),.agg #[.int .i64 1,.int .i64 k,.int .u64 v,.string t]] w (bF (bn x ⟨1,k,v,t⟩) w b):=by
 have hms:bn x ⟨1,k,v,t⟩=if k=2 then some ({x with m:={x.m with name:=t}})else none:=by simp[bn]
 generalize bn x ⟨1,k,v,t⟩=R at hms⊢;have hA:=(ai.refl [] w).alloc (.cells #[.int .i64 1,.int .i64 k,.int .u64 v,.string t] 100);have hbl:=aj h;have hM1:bH (w.alloc (.cells #[.int .i64 1,.int .i64 k,.int .u64 v,.string t] 100)) b x:=h.own hA (by simp);obtain⟨⟨d0,d1,d2,d3⟩,_⟩:=q4 (heap_alloc_new w (.cells #[.int .i64 1,.int .i64 k,.int .u64 v,.string t] 100));have cT:=af (fun W' (hm:bH W' b (x))=>fV ⟨1,k,v,t⟩ b 0 _ W' (hm.cell 0 rfl).1 (hm.cell 0 rfl).2);have fO:=af (show bH ((w.alloc (.cells #[.int .i64 1,.int .i64 k,.int .u64 v,.string t] 100))).drew b (x)from hM1);have qX:=af (show ai [b] w ((w.alloc (.cells #[.int .i64 1,.int .i64 k,.int .u64 v,.string t] 100))).drew from(hA.nil).drew);unfold fL at cT;simp only at cT;by_cases hok:k=2
 ·rw[if_pos hok]at hms
  have hb:(k==2)=true:=by simpa using hok
  rw[hb]at cT;unfold aL at cT;change Hid _ at hms;clear hM1 hA h hok hb;go_enter Tryz.func381,Tryz.ntmps381
  go_wp2_with fail
  go_region_held3(fun W=>W.cell? ⟨w.heap.size,0,none⟩=some (.int .i64 1)/\W.cell? ⟨w.heap.size,1,none⟩=some (.int .i64 k)/\W.cell? ⟨w.heap.size,2,none⟩=some (.int .u64 v)/\W.cell? ⟨w.heap.size,3,none⟩=some (.string t)) (go_keep) ((go_at_call 385;(with_reducible refine(cT.out _ (by exact fO.out)).mono ?_);rintro e w2 ⟨rfl,hS⟩;have hM2:=af (fO.out.set (x':={x with m:={x.m with name:=t}}) hS rfl);have hO2:=af (qX.out.trans hS.own);have lW:w2.cell? ⟨w.heap.size,0,none⟩=some (.int .i64 1)/\w2.cell? ⟨w.heap.size,1,none⟩=some (.int .i64 k)/\w2.cell? ⟨w.heap.size,2,none⟩=some (.int .u64 v)/\w2.cell? ⟨w.heap.size,3,none⟩=some (.string t):=⟨(hS.own.cell (block_lt_of_cell d0) (by simp;try omega)).trans d0,(hS.own.cell (block_lt_of_cell d1) (by simp;try omega)).trans d1,(hS.own.cell (block_lt_of_cell d2) (by simp;try omega)).trans d2,(hS.own.cell (block_lt_of_cell d3) (by simp;try omega)).trans d3⟩;clear hS))
  all_goals
   go_wp2_with fail
   go_ret
   exact fw hms.out hM2.out hO2.out
 ·rw[if_neg hok]at hms
  have hb:(k==2)=false:=by
   rw[Bool.eq_false_iff];intro hh;exact hok (by simpa using hh)
  rw[hb]at cT;unfold aL at cT;change Hid _ at hms;clear hM1 hA h hok hb;go_enter Tryz.func381,Tryz.ntmps381
  go_wp2_with fail
  go_region_held3(fun W=>W.cell? ⟨w.heap.size,0,none⟩=some (.int .i64 1)/\W.cell? ⟨w.heap.size,1,none⟩=some (.int .i64 k)/\W.cell? ⟨w.heap.size,2,none⟩=some (.int .u64 v)/\W.cell? ⟨w.heap.size,3,none⟩=some (.string t)) (go_keep) ((go_at_call 385;(with_reducible refine(cT.out _ (by exact fO.out)).mono ?_);rintro e w2 ⟨⟨ec,ay,rfl⟩,hS⟩;have hO2:=af (qX.out.trans hS.nil);replace ay:=af ay;have lW:w2.cell? ⟨w.heap.size,0,none⟩=some (.int .i64 1)/\w2.cell? ⟨w.heap.size,1,none⟩=some (.int .i64 k)/\w2.cell? ⟨w.heap.size,2,none⟩=some (.int .u64 v)/\w2.cell? ⟨w.heap.size,3,none⟩=some (.string t):=⟨(hS.cell (block_lt_of_cell d0) (by simp;try omega)).trans d0,(hS.cell (block_lt_of_cell d1) (by simp;try omega)).trans d1,(hS.cell (block_lt_of_cell d2) (by simp;try omega)).trans d2,(hS.cell (block_lt_of_cell d3) (by simp;try omega)).trans d3⟩;clear hS))
  all_goals
   go_wp2_with fail
   go_ret
   exact dZ hms.out ay.out hO2.out
theorem RS(b:Nat)(x:MT)(k v:Int)(t:ByteArray)(w:World)(h:bH w b x)(h0:0<=v)(h1:v<=18446744073709551615):
  Calls Tryz.prog 381 #[.pointer (some ⟨b,0,none⟩),.agg #[.int .i64 2,.int .i64 k,.int .u64 v,.string t]] w (bF (bn x ⟨2,k,v,t⟩) w b):=by
 have hms:bn x ⟨2,k,v,t⟩=if k=0/\v<=18446744073709551615 then some ({x with m:={x.m with has:=true,al:=v}})else none:=by simp[bn,h1]
 generalize bn x ⟨2,k,v,t⟩=R at hms⊢;have hA:=(ai.refl [] w).alloc (.cells #[.int .i64 2,.int .i64 k,.int .u64 v,.string t] 100);have hbl:=aj h;have hM1:bH (w.alloc (.cells #[.int .i64 2,.int .i64 k,.int .u64 v,.string t] 100)) b x:=h.own hA (by simp);obtain⟨⟨d0,d1,d2,d3⟩,_⟩:=q4 (heap_alloc_new w (.cells #[.int .i64 2,.int .i64 k,.int .u64 v,.string t] 100));obtain⟨ph0,pk0⟩:=h.cell 1 (u:=.bool x.m.has) rfl;obtain⟨pc0,pz0⟩:=hM1.cell 1 (u:=.bool x.m.has) rfl;have hq0:=heap_setCell_same w b 1 _ _ (.bool true) h;have hM2:bH (w.setCell ⟨b,1,none⟩ (.bool true)) b ({x with m:={x.m with has:=true}}):=by
  have hh:=hq0;unfold bH;rw[hh];rfl
 have zm:ai [b] w (w.setCell ⟨b,1,none⟩ (.bool true)):=(ai.refl [b] w).setCell (.inl (by simp)) _;have Ev:ai [b] w ((w.setCell ⟨b,1,none⟩ (.bool true)).alloc (.cells #[.int .i64 2,.int .i64 k,.int .u64 v,.string t] 100)):=zm.alloc _;have dY:bH ((w.setCell ⟨b,1,none⟩ (.bool true)).alloc (.cells #[.int .i64 2,.int .i64 k,.int .u64 v,.string t] 100)) b ({x with m:={x.m with has:=true}}):=hM2.own ((ai.refl [] _).alloc _) (by simp);have hsz:(w.setCell ⟨b,1,none⟩ (.bool true)).heap.size=w.heap.size:=by simp
 have hnew:=heap_alloc_new (w.setCell ⟨b,1,none⟩ (.bool true)) (.cells #[.int .i64 2,.int .i64 k,.int .u64 v,.string t] 100);rw[hsz]at hnew;clear d0 d1 d2 d3;obtain⟨⟨d0,d1,d2,d3⟩,_⟩:=q4 hnew;have cT:=af (fun W' (hm:bH W' b ({x with m:={x.m with has:=true}}))=>zM ⟨2,k,v,t⟩ b 2 _ W' (hm.cell 2 rfl).1 (hm.cell 2 rfl).2);have fO:=af (show bH (((w.setCell ⟨b,1,none⟩ (.bool true)).alloc (.cells #[.int .i64 2,.int .i64 k,.int .u64 v,.string t] 100))).drew b ({x with m:={x.m with has:=true}})from dY);have qX:=af (show ai [b] w (((w.setCell ⟨b,1,none⟩ (.bool true)).alloc (.cells #[.int .i64 2,.int .i64 k,.int .u64 v,.string t] 100))).drew from(Ev).drew);unfold fL at cT;simp only at cT;by_cases hok:k=0/\v<=18446744073709551615
 ·rw[if_pos hok]at hms
  have hb:(k==0&&decide (v<=18446744073709551615))=true:=by simpa using hok
  rw[hb]at cT;unfold aL at cT;change Hid _ at hms;clear hM1 hA h hok hb hM2 dY zm Ev hnew hsz hq0;go_enter Tryz.func381,Tryz.ntmps381
  go_wp2_with fail
  go_region_held3(fun W=>W.cell? ⟨w.heap.size,0,none⟩=some (.int .i64 2)/\W.cell? ⟨w.heap.size,1,none⟩=some (.int .i64 k)/\W.cell? ⟨w.heap.size,2,none⟩=some (.int .u64 v)/\W.cell? ⟨w.heap.size,3,none⟩=some (.string t)) (go_keep) ((go_at_call 386;(with_reducible refine(cT.out _ (by exact fO.out)).mono ?_);rintro e w2 ⟨rfl,hS⟩;have hM2:=af (fO.out.set (x':={x with m:={x.m with has:=true,al:=v}}) hS rfl);have hO2:=af (qX.out.trans hS.own);have lW:w2.cell? ⟨w.heap.size,0,none⟩=some (.int .i64 2)/\w2.cell? ⟨w.heap.size,1,none⟩=some (.int .i64 k)/\w2.cell? ⟨w.heap.size,2,none⟩=some (.int .u64 v)/\w2.cell? ⟨w.heap.size,3,none⟩=some (.string t):=⟨(hS.own.cell (block_lt_of_cell d0) (by simp;try omega)).trans d0,(hS.own.cell (block_lt_of_cell d1) (by simp;try omega)).trans d1,(hS.own.cell (block_lt_of_cell d2) (by simp;try omega)).trans d2,(hS.own.cell (block_lt_of_cell d3) (by simp;try omega)).trans d3⟩;clear hS))
  all_goals
   go_wp2_with fail
   go_ret
   exact fw hms.out hM2.out hO2.out
 ·rw[if_neg hok]at hms
  have hb:(k==0&&decide (v<=18446744073709551615))=false:=by
   rw[Bool.eq_false_iff];intro hh;exact hok (by simpa using hh)
  rw[hb]at cT;unfold aL at cT;change Hid _ at hms;clear hM1 hA h hok hb hM2 dY zm Ev hnew hsz hq0;go_enter Tryz.func381,Tryz.ntmps381
  go_wp2_with fail
  go_region_held3(fun W=>W.cell? ⟨w.heap.size,0,none⟩=some (.int .i64 2)/\W.cell? ⟨w.heap.size,1,none⟩=some (.int .i64 k)/\W.cell? ⟨w.heap.size,2,none⟩=some (.int .u64 v)/\W.cell? ⟨w.heap.size,3,none⟩=some (.string t)) (go_keep) ((go_at_call 386;(with_reducible refine(cT.out _ (by exact fO.out)).mono ?_);rintro e w2 ⟨⟨ec,ay,rfl⟩,hS⟩;have hO2:=af (qX.out.trans hS.nil);replace ay:=af ay;have lW:w2.cell? ⟨w.heap.size,0,none⟩=some (.int .i64 2)/\w2.cell? ⟨w.heap.size,1,none⟩=some (.int .i64 k)/\w2.cell? ⟨w.heap.size,2,none⟩=some (.int .u64 v)/\w2.cell? ⟨w.heap.size,3,none⟩=some (.string t):=⟨(hS.cell (block_lt_of_cell d0) (by simp;try omega)).trans d0,(hS.cell (block_lt_of_cell d1) (by simp;try omega)).trans d1,(hS.cell (block_lt_of_cell d2) (by simp;try omega)).trans d2,(hS.cell (block_lt_of_cell d3) (by simp;try omega)).trans d3⟩;clear hS))
  all_goals
   go_wp2_with fail
   go_ret
   exact dZ hms.out ay.out hO2.out
theorem RU(b:Nat)(x:MT)(k v:Int)(t:ByteArray)(w:World)(h:bH w b x)(h0:0<=v)(h1:v<=18446744073709551615):
  Calls Tryz.prog 381 #[.pointer (some ⟨b,0,none⟩),.agg #[.int .i64 3,.int .i64 k,.int .u64 v,.string t]] w (bF (bn x ⟨3,k,v,t⟩) w b):=by
 have hms:bn x ⟨3,k,v,t⟩=if k=0/\v<=18446744073709551615 then some ({x with m:={x.m with time:=v}})else none:=by simp[bn,h1]
 generalize bn x ⟨3,k,v,t⟩=R at hms⊢;have hA:=(ai.refl [] w).alloc (.cells #[.int .i64 3,.int .i64 k,.int .u64 v,.string t] 100);have hbl:=aj h;have hM1:bH (w.alloc (.cells #[.int .i64 3,.int .i64 k,.int .u64 v,.string t] 100)) b x:=h.own hA (by simp);obtain⟨⟨d0,d1,d2,d3⟩,_⟩:=q4 (heap_alloc_new w (.cells #[.int .i64 3,.int .i64 k,.int .u64 v,.string t] 100));have cT:=af (fun W' (hm:bH W' b (x))=>zM ⟨3,k,v,t⟩ b 3 _ W' (hm.cell 3 rfl).1 (hm.cell 3 rfl).2);have fO:=af (show bH ((w.alloc (.cells #[.int .i64 3,.int .i64 k,.int .u64 v,.string t] 100))).drew b (x)from hM1);have qX:=af (show ai [b] w ((w.alloc (.cells #[.int .i64 3,.int .i64 k,.int .u64 v,.string t] 100))).drew from(hA.nil).drew);unfold fL at cT;simp only at cT;by_cases hok:k=0/\v<=18446744073709551615
 ·rw[if_pos hok]at hms
  have hb:(k==0&&decide (v<=18446744073709551615))=true:=by simpa using hok
  rw[hb]at cT;unfold aL at cT;change Hid _ at hms;clear hM1 hA h hok hb;go_enter Tryz.func381,Tryz.ntmps381
  go_wp2_with fail
  go_region_held3(fun W=>W.cell? ⟨w.heap.size,0,none⟩=some (.int .i64 3)/\W.cell? ⟨w.heap.size,1,none⟩=some (.int .i64 k)/\W.cell? ⟨w.heap.size,2,none⟩=some (.int .u64 v)/\W.cell? ⟨w.heap.size,3,none⟩=some (.string t)) (go_keep) ((go_at_call 386;(with_reducible refine(cT.out _ (by exact fO.out)).mono ?_);rintro e w2 ⟨rfl,hS⟩;have hM2:=af (fO.out.set (x':={x with m:={x.m with time:=v}}) hS rfl);have hO2:=af (qX.out.trans hS.own);have lW:w2.cell? ⟨w.heap.size,0,none⟩=some (.int .i64 3)/\w2.cell? ⟨w.heap.size,1,none⟩=some (.int .i64 k)/\w2.cell? ⟨w.heap.size,2,none⟩=some (.int .u64 v)/\w2.cell? ⟨w.heap.size,3,none⟩=some (.string t):=⟨(hS.own.cell (block_lt_of_cell d0) (by simp;try omega)).trans d0,(hS.own.cell (block_lt_of_cell d1) (by simp;try omega)).trans d1,(hS.own.cell (block_lt_of_cell d2) (by simp;try omega)).trans d2,(hS.own.cell (block_lt_of_cell d3) (by simp;try omega)).trans d3⟩;clear hS))
  all_goals
   go_wp2_with fail
   go_ret
   exact fw hms.out hM2.out hO2.out
 ·rw[if_neg hok]at hms
  have hb:(k==0&&decide (v<=18446744073709551615))=false:=by
   rw[Bool.eq_false_iff];intro hh;exact hok (by simpa using hh)
  rw[hb]at cT;unfold aL at cT;change Hid _ at hms;clear hM1 hA h hok hb;go_enter Tryz.func381,Tryz.ntmps381
  go_wp2_with fail
  go_region_held3(fun W=>W.cell? ⟨w.heap.size,0,none⟩=some (.int .i64 3)/\W.cell? ⟨w.heap.size,1,none⟩=some (.int .i64 k)/\W.cell? ⟨w.heap.size,2,none⟩=some (.int .u64 v)/\W.cell? ⟨w.heap.size,3,none⟩=some (.string t)) (go_keep) ((go_at_call 386;(with_reducible refine(cT.out _ (by exact fO.out)).mono ?_);rintro e w2 ⟨⟨ec,ay,rfl⟩,hS⟩;have hO2:=af (qX.out.trans hS.nil);replace ay:=af ay;have lW:w2.cell? ⟨w.heap.size,0,none⟩=some (.int .i64 3)/\w2.cell? ⟨w.heap.size,1,none⟩=some (.int .i64 k)/\w2.cell? ⟨w.heap.size,2,none⟩=some (.int .u64 v)/\w2.cell? ⟨w.heap.size,3,none⟩=some (.string t):=⟨(hS.cell (block_lt_of_cell d0) (by simp;try omega)).trans d0,(hS.cell (block_lt_of_cell d1) (by simp;try omega)).trans d1,(hS.cell (block_lt_of_cell d2) (by simp;try omega)).trans d2,(hS.cell (block_lt_of_cell d3) (by simp;try omega)).trans d3⟩;clear hS))
  all_goals
   go_wp2_with fail
   go_ret
   exact dZ hms.out ay.out hO2.out
theorem RV(b:Nat)(x:MT)(k v:Int)(t:ByteArray)(w:World)(h:bH w b x)(h0:0<=v)(h1:v<=18446744073709551615):
  Calls Tryz.prog 381 #[.pointer (some ⟨b,0,none⟩),.agg #[.int .i64 4,.int .i64 k,.int .u64 v,.string t]] w (bF (bn x ⟨4,k,v,t⟩) w b):=by
 have hms:bn x ⟨4,k,v,t⟩=if k=0/\v<=4294967295 then some ({x with m:={x.m with ty:=v}})else none:=by simp[bn]
 generalize bn x ⟨4,k,v,t⟩=R at hms⊢;have hA:=(ai.refl [] w).alloc (.cells #[.int .i64 4,.int .i64 k,.int .u64 v,.string t] 100);have hbl:=aj h;have hM1:bH (w.alloc (.cells #[.int .i64 4,.int .i64 k,.int .u64 v,.string t] 100)) b x:=h.own hA (by simp);obtain⟨⟨d0,d1,d2,d3⟩,_⟩:=q4 (heap_alloc_new w (.cells #[.int .i64 4,.int .i64 k,.int .u64 v,.string t] 100));have cT:=af (fun W' (hm:bH W' b (x))=>xH ⟨4,k,v,t⟩ b 4 _ W' (hm.cell 4 rfl).1 (hm.cell 4 rfl).2 h0);have fO:=af (show bH ((w.alloc (.cells #[.int .i64 4,.int .i64 k,.int .u64 v,.string t] 100))).drew b (x)from hM1);have qX:=af (show ai [b] w ((w.alloc (.cells #[.int .i64 4,.int .i64 k,.int .u64 v,.string t] 100))).drew from(hA.nil).drew);unfold fL at cT;simp only at cT;by_cases hok:k=0/\v<=4294967295
 ·rw[if_pos hok]at hms
  have hb:(k==0&&decide (v<=4294967295))=true:=by simpa using hok
  rw[hb]at cT;unfold aL at cT;change Hid _ at hms;clear hM1 hA h hok hb;go_enter Tryz.func381,Tryz.ntmps381
  go_wp2_with fail
  go_region_held3(fun W=>W.cell? ⟨w.heap.size,0,none⟩=some (.int .i64 4)/\W.cell? ⟨w.heap.size,1,none⟩=some (.int .i64 k)/\W.cell? ⟨w.heap.size,2,none⟩=some (.int .u64 v)/\W.cell? ⟨w.heap.size,3,none⟩=some (.string t)) (go_keep) ((go_at_call 387;(with_reducible refine(cT.out _ (by exact fO.out)).mono ?_);rintro e w2 ⟨rfl,hS⟩;have hM2:=af (fO.out.set (x':={x with m:={x.m with ty:=v}}) hS rfl);have hO2:=af (qX.out.trans hS.own);have lW:w2.cell? ⟨w.heap.size,0,none⟩=some (.int .i64 4)/\w2.cell? ⟨w.heap.size,1,none⟩=some (.int .i64 k)/\w2.cell? ⟨w.heap.size,2,none⟩=some (.int .u64 v)/\w2.cell? ⟨w.heap.size,3,none⟩=some (.string t):=⟨(hS.own.cell (block_lt_of_cell d0) (by simp;try omega)).trans d0,(hS.own.cell (block_lt_of_cell d1) (by simp;try omega)).trans d1,(hS.own.cell (block_lt_of_cell d2) (by simp;try omega)).trans d2,(hS.own.cell (block_lt_of_cell d3) (by simp;try omega)).trans d3⟩;clear hS))
  all_goals
   go_wp2_with fail
   go_ret
   exact fw hms.out hM2.out hO2.out
 ·rw[if_neg hok]at hms
  have hb:(k==0&&decide (v<=4294967295))=false:=by
   rw[Bool.eq_false_iff];intro hh;exact hok (by simpa using hh)
  rw[hb]at cT;unfold aL at cT;change Hid _ at hms;clear hM1 hA h hok hb;go_enter Tryz.func381,Tryz.ntmps381
  go_wp2_with fail
  go_region_held3(fun W=>W.cell? ⟨w.heap.size,0,none⟩=some (.int .i64 4)/\W.cell? ⟨w.heap.size,1,none⟩=some (.int .i64 k)/\W.cell? ⟨w.heap.size,2,none⟩=some (.int .u64 v)/\W.cell? ⟨w.heap.size,3,none⟩=some (.string t)) (go_keep) ((go_at_call 387;(with_reducible refine(cT.out _ (by exact fO.out)).mono ?_);rintro e w2 ⟨⟨ec,ay,rfl⟩,hS⟩;have hO2:=af (qX.out.trans hS.nil);replace ay:=af ay;have lW:w2.cell? ⟨w.heap.size,0,none⟩=some (.int .i64 4)/\w2.cell? ⟨w.heap.size,1,none⟩=some (.int .i64 k)/\w2.cell? ⟨w.heap.size,2,none⟩=some (.int .u64 v)/\w2.cell? ⟨w.heap.size,3,none⟩=some (.string t):=⟨(hS.cell (block_lt_of_cell d0) (by simp;try omega)).trans d0,(hS.cell (block_lt_of_cell d1) (by simp;try omega)).trans d1,(hS.cell (block_lt_of_cell d2) (by simp;try omega)).trans d2,(hS.cell (block_lt_of_cell d3) (by simp;try omega)).trans d3⟩;clear hS))
  all_goals
   go_wp2_with fail
   go_ret
   exact dZ hms.out ay.out hO2.out
theorem RX(b:Nat)(x:MT)(k v:Int)(t:ByteArray)(w:World)(h:bH w b x)(h0:0<=v)(h1:v<=18446744073709551615):
  Calls Tryz.prog 381 #[.pointer (some ⟨b,0,none⟩),.agg #[.int .i64 5,.int .i64 k,.int .u64 v,.string t]] w (bF (bn x ⟨5,k,v,t⟩) w b):=by
 have hms:bn x ⟨5,k,v,t⟩=if k=0/\v<=1 then some ({x with m:={x.m with hist:=v==1}})else none:=by simp[bn]
 generalize bn x ⟨5,k,v,t⟩=R at hms⊢;have hA:=(ai.refl [] w).alloc (.cells #[.int .i64 5,.int .i64 k,.int .u64 v,.string t] 100);have hbl:=aj h;have hM1:bH (w.alloc (.cells #[.int .i64 5,.int .i64 k,.int .u64 v,.string t] 100)) b x:=h.own hA (by simp);obtain⟨⟨d0,d1,d2,d3⟩,_⟩:=q4 (heap_alloc_new w (.cells #[.int .i64 5,.int .i64 k,.int .u64 v,.string t] 100));have cT:=af (fun W' (hm:bH W' b (x))=>qK ⟨5,k,v,t⟩ b 5 _ W' (hm.cell 5 rfl).1 (hm.cell 5 rfl).2);have fO:=af (show bH ((w.alloc (.cells #[.int .i64 5,.int .i64 k,.int .u64 v,.string t] 100))).drew b (x)from hM1);have qX:=af (show ai [b] w ((w.alloc (.cells #[.int .i64 5,.int .i64 k,.int .u64 v,.string t] 100))).drew from(hA.nil).drew);unfold fL at cT;simp only at cT;by_cases hok:k=0/\v<=1
 ·rw[if_pos hok]at hms
  have hb:(k==0&&decide (v<=1))=true:=by simpa using hok
  rw[hb]at cT;unfold aL at cT;change Hid _ at hms;clear hM1 hA h hok hb;go_enter Tryz.func381,Tryz.ntmps381
  go_wp2_with fail
  go_region_held3(fun W=>W.cell? ⟨w.heap.size,0,none⟩=some (.int .i64 5)/\W.cell? ⟨w.heap.size,1,none⟩=some (.int .i64 k)/\W.cell? ⟨w.heap.size,2,none⟩=some (.int .u64 v)/\W.cell? ⟨w.heap.size,3,none⟩=some (.string t)) (go_keep) ((go_at_call 388;(with_reducible refine(cT.out _ (by exact fO.out)).mono ?_);rintro e w2 ⟨rfl,hS⟩;have hM2:=af (fO.out.set (x':={x with m:={x.m with hist:=v==1}}) hS rfl);have hO2:=af (qX.out.trans hS.own);have lW:w2.cell? ⟨w.heap.size,0,none⟩=some (.int .i64 5)/\w2.cell? ⟨w.heap.size,1,none⟩=some (.int .i64 k)/\w2.cell? ⟨w.heap.size,2,none⟩=some (.int .u64 v)/\w2.cell? ⟨w.heap.size,3,none⟩=some (.string t):=⟨(hS.own.cell (block_lt_of_cell d0) (by simp;try omega)).trans d0,(hS.own.cell (block_lt_of_cell d1) (by simp;try omega)).trans d1,(hS.own.cell (block_lt_of_cell d2) (by simp;try omega)).trans d2,(hS.own.cell (block_lt_of_cell d3) (by simp;try omega)).trans d3⟩;clear hS))
  all_goals
   go_wp2_with fail
   go_ret
   exact fw hms.out hM2.out hO2.out
 ·rw[if_neg hok]at hms
  have hb:(k==0&&decide (v<=1))=false:=by
   rw[Bool.eq_false_iff];intro hh;exact hok (by simpa using hh)
  rw[hb]at cT;unfold aL at cT;change Hid _ at hms;clear hM1 hA h hok hb;go_enter Tryz.func381,Tryz.ntmps381
  go_wp2_with fail
  go_region_held3(fun W=>W.cell? ⟨w.heap.size,0,none⟩=some (.int .i64 5)/\W.cell? ⟨w.heap.size,1,none⟩=some (.int .i64 k)/\W.cell? ⟨w.heap.size,2,none⟩=some (.int .u64 v)/\W.cell? ⟨w.heap.size,3,none⟩=some (.string t)) (go_keep) ((go_at_call 388;(with_reducible refine(cT.out _ (by exact fO.out)).mono ?_);rintro e w2 ⟨⟨ec,ay,rfl⟩,hS⟩;have hO2:=af (qX.out.trans hS.nil);replace ay:=af ay;have lW:w2.cell? ⟨w.heap.size,0,none⟩=some (.int .i64 5)/\w2.cell? ⟨w.heap.size,1,none⟩=some (.int .i64 k)/\w2.cell? ⟨w.heap.size,2,none⟩=some (.int .u64 v)/\w2.cell? ⟨w.heap.size,3,none⟩=some (.string t):=⟨(hS.cell (block_lt_of_cell d0) (by simp;try omega)).trans d0,(hS.cell (block_lt_of_cell d1) (by simp;try omega)).trans d1,(hS.cell (block_lt_of_cell d2) (by simp;try omega)).trans d2,(hS.cell (block_lt_of_cell d3) (by simp;try omega)).trans d3⟩;clear hS))
  all_goals
   go_wp2_with fail
   go_ret
   exact dZ hms.out ay.out hO2.out
theorem RY(b:Nat)(x:MT)(k v:Int)(t:ByteArray)(w:World)(h:bH w b x)(h0:0<=v)(h1:v<=18446744073709551615):
  Calls Tryz.prog 381 #[.pointer (some ⟨b,0,none⟩),.agg #[.int .i64 6,.int .i64 k,.int .u64 v,.string t]] w (bF (bn x ⟨6,k,v,t⟩) w b):=by
 have hms:bn x ⟨6,k,v,t⟩=if k=0/\v<=1 then some ({x with m:={x.m with trans:=v==1}})else none:=by simp[bn]
 generalize bn x ⟨6,k,v,t⟩=R at hms⊢;have hA:=(ai.refl [] w).alloc (.cells #[.int .i64 6,.int .i64 k,.int .u64 v,.string t] 100);have hbl:=aj h;have hM1:bH (w.alloc (.cells #[.int .i64 6,.int .i64 k,.int .u64 v,.string t] 100)) b x:=h.own hA (by simp);obtain⟨⟨d0,d1,d2,d3⟩,_⟩:=q4 (heap_alloc_new w (.cells #[.int .i64 6,.int .i64 k,.int .u64 v,.string t] 100));have cT:=af (fun W' (hm:bH W' b (x))=>qK ⟨6,k,v,t⟩ b 6 _ W' (hm.cell 6 rfl).1 (hm.cell 6 rfl).2);have fO:=af (show bH ((w.alloc (.cells #[.int .i64 6,.int .i64 k,.int .u64 v,.string t] 100))).drew b (x)from hM1);have qX:=af (show ai [b] w ((w.alloc (.cells #[.int .i64 6,.int .i64 k,.int .u64 v,.string t] 100))).drew from(hA.nil).drew);unfold fL at cT;simp only at cT;by_cases hok:k=0/\v<=1
 ·rw[if_pos hok]at hms
  have hb:(k==0&&decide (v<=1))=true:=by simpa using hok
  rw[hb]at cT;unfold aL at cT;change Hid _ at hms;clear hM1 hA h hok hb;go_enter Tryz.func381,Tryz.ntmps381
  go_wp2_with fail
  go_region_held3(fun W=>W.cell? ⟨w.heap.size,0,none⟩=some (.int .i64 6)/\W.cell? ⟨w.heap.size,1,none⟩=some (.int .i64 k)/\W.cell? ⟨w.heap.size,2,none⟩=some (.int .u64 v)/\W.cell? ⟨w.heap.size,3,none⟩=some (.string t)) (go_keep) ((go_at_call 388;(with_reducible refine(cT.out _ (by exact fO.out)).mono ?_);rintro e w2 ⟨rfl,hS⟩;have hM2:=af (fO.out.set (x':={x with m:={x.m with trans:=v==1}}) hS rfl);have hO2:=af (qX.out.trans hS.own);have lW:w2.cell? ⟨w.heap.size,0,none⟩=some (.int .i64 6)/\w2.cell? ⟨w.heap.size,1,none⟩=some (.int .i64 k)/\w2.cell? ⟨w.heap.size,2,none⟩=some (.int .u64 v)/\w2.cell? ⟨w.heap.size,3,none⟩=some (.string t):=⟨(hS.own.cell (block_lt_of_cell d0) (by simp;try omega)).trans d0,(hS.own.cell (block_lt_of_cell d1) (by simp;try omega)).trans d1,(hS.own.cell (block_lt_of_cell d2) (by simp;try omega)).trans d2,(hS.own.cell (block_lt_of_cell d3) (by simp;try omega)).trans d3⟩;clear hS))
  all_goals
   go_wp2_with fail
   go_ret
   exact fw hms.out hM2.out hO2.out
 ·rw[if_neg hok]at hms
  have hb:(k==0&&decide (v<=1))=false:=by
   rw[Bool.eq_false_iff];intro hh;exact hok (by simpa using hh)
  rw[hb]at cT;unfold aL at cT;change Hid _ at hms;clear hM1 hA h hok hb;go_enter Tryz.func381,Tryz.ntmps381
  go_wp2_with fail
  go_region_held3(fun W=>W.cell? ⟨w.heap.size,0,none⟩=some (.int .i64 6)/\W.cell? ⟨w.heap.size,1,none⟩=some (.int .i64 k)/\W.cell? ⟨w.heap.size,2,none⟩=some (.int .u64 v)/\W.cell? ⟨w.heap.size,3,none⟩=some (.string t)) (go_keep) ((go_at_call 388;(with_reducible refine(cT.out _ (by exact fO.out)).mono ?_);rintro e w2 ⟨⟨ec,ay,rfl⟩,hS⟩;have hO2:=af (qX.out.trans hS.nil);replace ay:=af ay;have lW:w2.cell? ⟨w.heap.size,0,none⟩=some (.int .i64 6)/\w2.cell? ⟨w.heap.size,1,none⟩=some (.int .i64 k)/\w2.cell? ⟨w.heap.size,2,none⟩=some (.int .u64 v)/\w2.cell? ⟨w.heap.size,3,none⟩=some (.string t):=⟨(hS.cell (block_lt_of_cell d0) (by simp;try omega)).trans d0,(hS.cell (block_lt_of_cell d1) (by simp;try omega)).trans d1,(hS.cell (block_lt_of_cell d2) (by simp;try omega)).trans d2,(hS.cell (block_lt_of_cell d3) (by simp;try omega)).trans d3⟩;clear hS))
  all_goals
   go_wp2_with fail
   go_ret
   exact dZ hms.out ay.out hO2.out
theorem RZ(b:Nat)(x:MT)(k v:Int)(t:ByteArray)(w:World)(h:bH w b x)(h0:0<=v)(h1:v<=18446744073709551615):
  Calls Tryz.prog 381 #[.pointer (some ⟨b,0,none⟩),.agg #[.int .i64 7,.int .i64 k,.int .u64 v,.string t]] w (bF (bn x ⟨7,k,v,t⟩) w b):=by
 have hms:bn x ⟨7,k,v,t⟩=if k=0/\v<=1 then some ({x with m:={x.m with null:=v==1}})else none:=by simp[bn]
 generalize bn x ⟨7,k,v,t⟩=R at hms⊢;have hA:=(ai.refl [] w).alloc (.cells #[.int .i64 7,.int .i64 k,.int .u64 v,.string t] 100);have hbl:=aj h;have hM1:bH (w.alloc (.cells #[.int .i64 7,.int .i64 k,.int .u64 v,.string t] 100)) b x:=h.own hA (by simp);obtain⟨⟨d0,d1,d2,d3⟩,_⟩:=q4 (heap_alloc_new w (.cells #[.int .i64 7,.int .i64 k,.int .u64 v,.string t] 100));have cT:=af (fun W' (hm:bH W' b (x))=>qK ⟨7,k,v,t⟩ b 7 _ W' (hm.cell 7 rfl).1 (hm.cell 7 rfl).2);have fO:=af (show bH ((w.alloc (.cells #[.int .i64 7,.int .i64 k,.int .u64 v,.string t] 100))).drew b (x)from hM1);have qX:=af (show ai [b] w ((w.alloc (.cells #[.int .i64 7,.int .i64 k,.int .u64 v,.string t] 100))).drew from(hA.nil).drew);unfold fL at cT;simp only at cT;by_cases hok:k=0/\v<=1
 ·rw[if_pos hok]at hms
  have hb:(k==0&&decide (v<=1))=true:=by simpa using hok
  rw[hb]at cT;unfold aL at cT;change Hid _ at hms;clear hM1 hA h hok hb;go_enter Tryz.func381,Tryz.ntmps381
  go_wp2_with fail
  go_region_held3(fun W=>W.cell? ⟨w.heap.size,0,none⟩=some (.int .i64 7)/\W.cell? ⟨w.heap.size,1,none⟩=some (.int .i64 k)/\W.cell? ⟨w.heap.size,2,none⟩=some (.int .u64 v)/\W.cell? ⟨w.heap.size,3,none⟩=some (.string t)) (go_keep) ((go_at_call 388;(with_reducible refine(cT.out _ (by exact fO.out)).mono ?_);rintro e w2 ⟨rfl,hS⟩;have hM2:=af (fO.out.set (x':={x with m:={x.m with null:=v==1}}) hS rfl);have hO2:=af (qX.out.trans hS.own);have lW:w2.cell? ⟨w.heap.size,0,none⟩=some (.int .i64 7)/\w2.cell? ⟨w.heap.size,1,none⟩=some (.int .i64 k)/\w2.cell? ⟨w.heap.size,2,none⟩=some (.int .u64 v)/\w2.cell? ⟨w.heap.size,3,none⟩=some (.string t):=⟨(hS.own.cell (block_lt_of_cell d0) (by simp;try omega)).trans d0,(hS.own.cell (block_lt_of_cell d1) (by simp;try omega)).trans d1,(hS.own.cell (block_lt_of_cell d2) (by simp;try omega)).trans d2,(hS.own.cell (block_lt_of_cell d3) (by simp;try omega)).trans d3⟩;clear hS))
  all_goals
   go_wp2_with fail
   go_ret
   exact fw hms.out hM2.out hO2.out
 ·rw[if_neg hok]at hms
  have hb:(k==0&&decide (v<=1))=false:=by
   rw[Bool.eq_false_iff];intro hh;exact hok (by simpa using hh)
  rw[hb]at cT;unfold aL at cT;change Hid _ at hms;clear hM1 hA h hok hb;go_enter Tryz.func381,Tryz.ntmps381
  go_wp2_with fail
  go_region_held3(fun W=>W.cell? ⟨w.heap.size,0,none⟩=some (.int .i64 7)/\W.cell? ⟨w.heap.size,1,none⟩=some (.int .i64 k)/\W.cell? ⟨w.heap.size,2,none⟩=some (.int .u64 v)/\W.cell? ⟨w.heap.size,3,none⟩=some (.string t)) (go_keep) ((go_at_call 388;(with_reducible refine(cT.out _ (by exact fO.out)).mono ?_);rintro e w2 ⟨⟨ec,ay,rfl⟩,hS⟩;have hO2:=af (qX.out.trans hS.nil);replace ay:=af ay;have lW:w2.cell? ⟨w.heap.size,0,none⟩=some (.int .i64 7)/\w2.cell? ⟨w.heap.size,1,none⟩=some (.int .i64 k)/\w2.cell? ⟨w.heap.size,2,none⟩=some (.int .u64 v)/\w2.cell? ⟨w.heap.size,3,none⟩=some (.string t):=⟨(hS.cell (block_lt_of_cell d0) (by simp;try omega)).trans d0,(hS.cell (block_lt_of_cell d1) (by simp;try omega)).trans d1,(hS.cell (block_lt_of_cell d2) (by simp;try omega)).trans d2,(hS.cell (block_lt_of_cell d3) (by simp;try omega)).trans d3⟩;clear hS))
  all_goals
   go_wp2_with fail
   go_ret
   exact dZ hms.out ay.out hO2.out
theorem R3(b:Nat)(x:MT)(k v:Int)(t:ByteArray)(w:World)(h:bH w b x)(h0:0<=v)(h1:v<=18446744073709551615):
  Calls Tryz.prog 381 #[.pointer (some ⟨b,0,none⟩),.agg #[.int .i64 8,.int .i64 k,.int .u64 v,.string t]] w (bF (bn x ⟨8,k,v,t⟩) w b):=by
 have hms:bn x ⟨8,k,v,t⟩=if k=2 then some ({x with told:=true,meta':=t})else none:=by simp[bn]
 generalize bn x ⟨8,k,v,t⟩=R at hms⊢;have hA:=(ai.refl [] w).alloc (.cells #[.int .i64 8,.int .i64 k,.int .u64 v,.string t] 100);have hbl:=aj h;have hM1:bH (w.alloc (.cells #[.int .i64 8,.int .i64 k,.int .u64 v,.string t] 100)) b x:=h.own hA (by simp);obtain⟨⟨d0,d1,d2,d3⟩,_⟩:=q4 (heap_alloc_new w (.cells #[.int .i64 8,.int .i64 k,.int .u64 v,.string t] 100));obtain⟨ph0,pk0⟩:=h.cell 16 (u:=.bool x.told) rfl;obtain⟨pc0,pz0⟩:=hM1.cell 16 (u:=.bool x.told) rfl;have hq0:=heap_setCell_same w b 16 _ _ (.bool true) h;have hM2:bH (w.setCell ⟨b,16,none⟩ (.bool true)) b ({x with told:=true}):=by
  have hh:=hq0;unfold bH;rw[hh];rfl
 have zm:ai [b] w (w.setCell ⟨b,16,none⟩ (.bool true)):=(ai.refl [b] w).setCell (.inl (by simp)) _;have Ev:ai [b] w ((w.setCell ⟨b,16,none⟩ (.bool true)).alloc (.cells #[.int .i64 8,.int .i64 k,.int .u64 v,.string t] 100)):=zm.alloc _;have dY:bH ((w.setCell ⟨b,16,none⟩ (.bool true)).alloc (.cells #[.int .i64 8,.int .i64 k,.int .u64 v,.string t] 100)) b ({x with told:=true}):=hM2.own ((ai.refl [] _).alloc _) (by simp);have hsz:(w.setCell ⟨b,16,none⟩ (.bool true)).heap.size=w.heap.size:=by simp
 have hnew:=heap_alloc_new (w.setCell ⟨b,16,none⟩ (.bool true)) (.cells #[.int .i64 8,.int .i64 k,.int .u64 v,.string t] 100);rw[hsz]at hnew;clear d0 d1 d2 d3;obtain⟨⟨d0,d1,d2,d3⟩,_⟩:=q4 hnew;have cT:=af (fun W' (hm:bH W' b ({x with told:=true}))=>fV ⟨8,k,v,t⟩ b 15 _ W' (hm.cell 15 rfl).1 (hm.cell 15 rfl).2);have fO:=af (show bH (((w.setCell ⟨b,16,none⟩ (.bool true)).alloc (.cells #[.int .i64 8,.int .i64 k,.int .u64 v,.string t] 100))).drew b ({x with told:=true})from dY);have qX:=af (show ai [b] w (((w.setCell ⟨b,16,none⟩ (.bool true)).alloc (.cells #[.int .i64 8,.int .i64 k,.int .u64 v,.string t] 100))).drew from(Ev).drew);unfold fL at cT;simp only at cT;by_cases hok:k=2
 ·rw[if_pos hok]at hms
  have hb:(k==2)=true:=by simpa using hok
  rw[hb]at cT;unfold aL at cT;change Hid _ at hms;clear hM1 hA h hok hb hM2 dY zm Ev hnew hsz hq0;go_enter Tryz.func381,Tryz.ntmps381
  go_wp2_with fail
  go_region_held3(fun W=>W.cell? ⟨w.heap.size,0,none⟩=some (.int .i64 8)/\W.cell? ⟨w.heap.size,1,none⟩=some (.int .i64 k)/\W.cell? ⟨w.heap.size,2,none⟩=some (.int .u64 v)/\W.cell? ⟨w.heap.size,3,none⟩=some (.string t)) (go_keep) ((go_at_call 385;(with_reducible refine(cT.out _ (by exact fO.out)).mono ?_);rintro e w2 ⟨rfl,hS⟩;have hM2:=af (fO.out.set (x':={x with told:=true,meta':=t}) hS rfl);have hO2:=af (qX.out.trans hS.own);have lW:w2.cell? ⟨w.heap.size,0,none⟩=some (.int .i64 8)/\w2.cell? ⟨w.heap.size,1,none⟩=some (.int .i64 k)/\w2.cell? ⟨w.heap.size,2,none⟩=some (.int .u64 v)/\w2.cell? ⟨w.heap.size,3,none⟩=some (.string t):=⟨(hS.own.cell (block_lt_of_cell d0) (by simp;try omega)).trans d0,(hS.own.cell (block_lt_of_cell d1) (by simp;try omega)).trans d1,(hS.own.cell (block_lt_of_cell d2) (by simp;try omega)).trans d2,(hS.own.cell (block_lt_of_cell d3) (by simp;try omega)).trans d3⟩;clear hS))
  all_goals
   go_wp2_with fail
   go_ret
   exact fw hms.out hM2.out hO2.out
 ·rw[if_neg hok]at hms
  have hb:(k==2)=false:=by
   rw[Bool.eq_false_iff];intro hh;exact hok (by simpa using hh)
  rw[hb]at cT;unfold aL at cT;change Hid _ at hms;clear hM1 hA h hok hb hM2 dY zm Ev hnew hsz hq0;go_enter Tryz.func381,Tryz.ntmps381
  go_wp2_with fail
  go_region_held3(fun W=>W.cell? ⟨w.heap.size,0,none⟩=some (.int .i64 8)/\W.cell? ⟨w.heap.size,1,none⟩=some (.int .i64 k)/\W.cell? ⟨w.heap.size,2,none⟩=some (.int .u64 v)/\W.cell? ⟨w.heap.size,3,none⟩=some (.string t)) (go_keep) ((go_at_call 385;(with_reducible refine(cT.out _ (by exact fO.out)).mono ?_);rintro e w2 ⟨⟨ec,ay,rfl⟩,hS⟩;have hO2:=af (qX.out.trans hS.nil);replace ay:=af ay;have lW:w2.cell? ⟨w.heap.size,0,none⟩=some (.int .i64 8)/\w2.cell? ⟨w.heap.size,1,none⟩=some (.int .i64 k)/\w2.cell? ⟨w.heap.size,2,none⟩=some (.int .u64 v)/\w2.cell? ⟨w.heap.size,3,none⟩=some (.string t):=⟨(hS.cell (block_lt_of_cell d0) (by simp;try omega)).trans d0,(hS.cell (block_lt_of_cell d1) (by simp;try omega)).trans d1,(hS.cell (block_lt_of_cell d2) (by simp;try omega)).trans d2,(hS.cell (block_lt_of_cell d3) (by simp;try omega)).trans d3⟩;clear hS))
  all_goals
   go_wp2_with fail
   go_ret
   exact dZ hms.out ay.out hO2.out
theorem R4(b:Nat)(x:MT)(k v:Int)(t:ByteArray)(w:World)(h:bH w b x)(h0:0<=v)(h1:v<=18446744073709551615):
  Calls Tryz.prog 381 #[.pointer (some ⟨b,0,none⟩),.agg #[.int .i64 9,.int .i64 k,.int .u64 v,.string t]] w (bF (bn x ⟨9,k,v,t⟩) w b):=by
 have hms:bn x ⟨9,k,v,t⟩=if k=2 then some ({x with props:=t})else none:=by simp[bn]
 generalize bn x ⟨9,k,v,t⟩=R at hms⊢;have hA:=(ai.refl [] w).alloc (.cells #[.int .i64 9,.int .i64 k,.int .u64 v,.string t] 100);have hbl:=aj h;have hM1:bH (w.alloc (.cells #[.int .i64 9,.int .i64 k,.int .u64 v,.string t] 100)) b x:=h.own hA (by simp);obtain⟨⟨d0,d1,d2,d3⟩,_⟩:=q4 (heap_alloc_new w (.cells #[.int .i64 9,.int .i64 k,.int .u64 v,.string t] 100));have cT:=af (fun W' (hm:bH W' b (x))=>fV ⟨9,k,v,t⟩ b 17 _ W' (hm.cell 17 rfl).1 (hm.cell 17 rfl).2);have fO:=af (show bH ((w.alloc (.cells #[.int .i64 9,.int .i64 k,.int .u64 v,.string t] 100))).drew b (x)from hM1);have qX:=af (show ai [b] w ((w.alloc (.cells #[.int .i64 9,.int .i64 k,.int .u64 v,.string t] 100))).drew from(hA.nil).drew);unfold fL at cT;simp only at cT;by_cases hok:k=2
 ·rw[if_pos hok]at hms
  have hb:(k==2)=true:=by simpa using hok
  rw[hb]at cT;unfold aL at cT;change Hid _ at hms;clear hM1 hA h hok hb;go_enter Tryz.func381,Tryz.ntmps381
  go_wp2_with fail
  go_region_held3(fun W=>W.cell? ⟨w.heap.size,0,none⟩=some (.int .i64 9)/\W.cell? ⟨w.heap.size,1,none⟩=some (.int .i64 k)/\W.cell? ⟨w.heap.size,2,none⟩=some (.int .u64 v)/\W.cell? ⟨w.heap.size,3,none⟩=some (.string t)) (go_keep) ((go_at_call 385;(with_reducible refine(cT.out _ (by exact fO.out)).mono ?_);rintro e w2 ⟨rfl,hS⟩;have hM2:=af (fO.out.set (x':={x with props:=t}) hS rfl);have hO2:=af (qX.out.trans hS.own);have lW:w2.cell? ⟨w.heap.size,0,none⟩=some (.int .i64 9)/\w2.cell? ⟨w.heap.size,1,none⟩=some (.int .i64 k)/\w2.cell? ⟨w.heap.size,2,none⟩=some (.int .u64 v)/\w2.cell? ⟨w.heap.size,3,none⟩=some (.string t):=⟨(hS.own.cell (block_lt_of_cell d0) (by simp;try omega)).trans d0,(hS.own.cell (block_lt_of_cell d1) (by simp;try omega)).trans d1,(hS.own.cell (block_lt_of_cell d2) (by simp;try omega)).trans d2,(hS.own.cell (block_lt_of_cell d3) (by simp;try omega)).trans d3⟩;clear hS))
  all_goals
   go_wp2_with fail
   go_ret
   exact fw hms.out hM2.out hO2.out
 ·rw[if_neg hok]at hms
  have hb:(k==2)=false:=by
   rw[Bool.eq_false_iff];intro hh;exact hok (by simpa using hh)
  rw[hb]at cT;unfold aL at cT;change Hid _ at hms;clear hM1 hA h hok hb;go_enter Tryz.func381,Tryz.ntmps381
  go_wp2_with fail
  go_region_held3(fun W=>W.cell? ⟨w.heap.size,0,none⟩=some (.int .i64 9)/\W.cell? ⟨w.heap.size,1,none⟩=some (.int .i64 k)/\W.cell? ⟨w.heap.size,2,none⟩=some (.int .u64 v)/\W.cell? ⟨w.heap.size,3,none⟩=some (.string t)) (go_keep) ((go_at_call 385;(with_reducible refine(cT.out _ (by exact fO.out)).mono ?_);rintro e w2 ⟨⟨ec,ay,rfl⟩,hS⟩;have hO2:=af (qX.out.trans hS.nil);replace ay:=af ay;have lW:w2.cell? ⟨w.heap.size,0,none⟩=some (.int .i64 9)/\w2.cell? ⟨w.heap.size,1,none⟩=some (.int .i64 k)/\w2.cell? ⟨w.heap.size,2,none⟩=some (.int .u64 v)/\w2.cell? ⟨w.heap.size,3,none⟩=some (.string t):=⟨(hS.cell (block_lt_of_cell d0) (by simp;try omega)).trans d0,(hS.cell (block_lt_of_cell d1) (by simp;try omega)).trans d1,(hS.cell (block_lt_of_cell d2) (by simp;try omega)).trans d2,(hS.cell (block_lt_of_cell d3) (by simp;try omega)).trans d3⟩;clear hS))
  all_goals
   go_wp2_with fail
   go_ret
   exact dZ hms.out ay.out hO2.out
theorem OE(b:Nat)(x:MT)(k v:Int)(t:ByteArray)(w:World)(h:bH w b x)(h0:0<=v)(h1:v<=18446744073709551615):
  Calls Tryz.prog 381 #[.pointer (some ⟨b,0,none⟩),.agg #[.int .i64 17,.int .i64 k,.int .u64 v,.string t]] w (bF (bn x ⟨17,k,v,t⟩) w b):=by
 have hms:bn x ⟨17,k,v,t⟩=if k=2 then some ({x with m:={x.m with v:=⟨8,0,⟨#[]⟩⟩},big:=t})else none:=by simp[bn]
 generalize bn x ⟨17,k,v,t⟩=R at hms⊢;have hA:=(ai.refl [] w).alloc (.cells #[.int .i64 17,.int .i64 k,.int .u64 v,.string t] 100);have hbl:=aj h;have hM1:bH (w.alloc (.cells #[.int .i64 17,.int .i64 k,.int .u64 v,.string t] 100)) b x:=h.own hA (by simp);obtain⟨⟨d0,d1,d2,d3⟩,_⟩:=q4 (heap_alloc_new w (.cells #[.int .i64 17,.int .i64 k,.int .u64 v,.string t] 100));obtain⟨ph0,pk0⟩:=h.cell 10 (u:=.int .i64 x.m.v.k) rfl;obtain⟨pc0,pz0⟩:=hM1.cell 10 (u:=.int .i64 x.m.v.k) rfl;have hq0:=heap_setCell_same w b 10 _ _ (.int .i64 8) h;obtain⟨ph1,pk1⟩:=h.cell 11 (u:=.int .u64 x.m.v.n) rfl;obtain⟨pc1,pz1⟩:=hM1.cell 11 (u:=.int .u64 x.m.v.n) rfl;have hq1:=heap_setCell_same (w.setCell ⟨b,10,none⟩ (.int .i64 8)) b 11 _ _ (.int .u64 0) hq0;obtain⟨ph2,pk2⟩:=h.cell 12 (u:=.string x.m.v.s) rfl;obtain⟨pc2,pz2⟩:=hM1.cell 12 (u:=.string x.m.v.s) rfl;have hq2:=heap_setCell_same ((w.setCell ⟨b,10,none⟩ (.int .i64 8)).setCell ⟨b,11,none⟩ (.int .u64 0)) b 12 _ _ (.string ⟨#[]⟩) hq1;have hM2:bH (((w.setCell ⟨b,10,none⟩ (.int .i64 8)).setCell ⟨b,11,none⟩ (.int .u64 0)).setCell ⟨b,12,none⟩ (.string ⟨#[]⟩)) b ({x with m:={x.m with v:=⟨8,0,⟨#[]⟩⟩}}):=by
  have hh:=hq2;unfold bH;rw[hh];rfl
 have zm:ai [b] w (((w.setCell ⟨b,10,none⟩ (.int .i64 8)).setCell ⟨b,11,none⟩ (.int .u64 0)).setCell ⟨b,12,none⟩ (.string ⟨#[]⟩)):=(((ai.refl [b] w).setCell (.inl (by simp)) _).setCell (.inl (by simp)) _).setCell (.inl (by simp)) _;have Ev:ai [b] w ((((w.setCell ⟨b,10,none⟩ (.int .i64 8)).setCell ⟨b,11,none⟩ (.int .u64 0)).setCell ⟨b,12,none⟩ (.string ⟨#[]⟩)).alloc (.cells #[.int .i64 17,.int .i64 k,.int .u64 v,.string t] 100)):=zm.alloc _;have dY:bH ((((w.setCell ⟨b,10,none⟩ (.int .i64 8)).setCell ⟨b,11,none⟩ (.int .u64 0)).setCell ⟨b,12,none⟩ (.string ⟨#[]⟩)).alloc (.cells #[.int .i64 17,.int .i64 k,.int .u64 v,.string t] 100)) b ({x with m:={x.m with v:=⟨8,0,⟨#[]⟩⟩}}):=hM2.own ((ai.refl [] _).alloc _) (by simp);have hsz:(((w.setCell ⟨b,10,none⟩ (.int .i64 8)).setCell ⟨b,11,none⟩ (.int .u64 0)).setCell ⟨b,12,none⟩ (.string ⟨#[]⟩)).heap.size=w.heap.size:=by simp
 have hnew:=heap_alloc_new (((w.setCell ⟨b,10,none⟩ (.int .i64 8)).setCell ⟨b,11,none⟩ (.int .u64 0)).setCell ⟨b,12,none⟩ (.string ⟨#[]⟩)) (.cells #[.int .i64 17,.int .i64 k,.int .u64 v,.string t] 100);rw[hsz]at hnew;clear d0 d1 d2 d3;obtain⟨⟨d0,d1,d2,d3⟩,_⟩:=q4 hnew;have cT:=af (fun W' (hm:bH W' b ({x with m:={x.m with v:=⟨8,0,⟨#[]⟩⟩}}))=>fV ⟨17,k,v,t⟩ b 18 _ W' (hm.cell 18 rfl).1 (hm.cell 18 rfl).2);have fO:=af (show bH (((((w.setCell ⟨b,10,none⟩ (.int .i64 8)).setCell ⟨b,11,none⟩ (.int .u64 0)).setCell ⟨b,12,none⟩ (.string ⟨#[]⟩)).alloc (.cells #[.int .i64 17,.int .i64 k,.int .u64 v,.string t] 100))).drew b ({x with m:={x.m with v:=⟨8,0,⟨#[]⟩⟩}})from dY);have qX:=af (show ai [b] w (((((w.setCell ⟨b,10,none⟩ (.int .i64 8)).setCell ⟨b,11,none⟩ (.int .u64 0)).setCell ⟨b,12,none⟩ (.string ⟨#[]⟩)).alloc (.cells #[.int .i64 17,.int .i64 k,.int .u64 v,.string t] 100))).drew from(Ev).drew);unfold fL at cT;simp only at cT;by_cases hok:k=2
 ·rw[if_pos hok]at hms
  have hb:(k==2)=true:=by simpa using hok
  rw[hb]at cT;unfold aL at cT;change Hid _ at hms;clear hM1 hA h hok hb hM2 dY zm Ev hnew hsz hq0 hq1 hq2;go_enter Tryz.func381,Tryz.ntmps381
  go_wp2_with fail
  go_region_held3(fun W=>W.cell? ⟨w.heap.size,0,none⟩=some (.int .i64 17)/\W.cell? ⟨w.heap.size,1,none⟩=some (.int .i64 k)/\W.cell? ⟨w.heap.size,2,none⟩=some (.int .u64 v)/\W.cell? ⟨w.heap.size,3,none⟩=some (.string t)) (go_keep) ((go_at_call 385;(with_reducible refine(cT.out _ (by exact fO.out)).mono ?_);rintro e w2 ⟨rfl,hS⟩;have hM2:=af (fO.out.set (x':={x with m:={x.m with v:=⟨8,0,⟨#[]⟩⟩},big:=t}) hS rfl);have hO2:=af (qX.out.trans hS.own);have lW:w2.cell? ⟨w.heap.size,0,none⟩=some (.int .i64 17)/\w2.cell? ⟨w.heap.size,1,none⟩=some (.int .i64 k)/\w2.cell? ⟨w.heap.size,2,none⟩=some (.int .u64 v)/\w2.cell? ⟨w.heap.size,3,none⟩=some (.string t):=⟨(hS.own.cell (block_lt_of_cell d0) (by simp;try omega)).trans d0,(hS.own.cell (block_lt_of_cell d1) (by simp;try omega)).trans d1,(hS.own.cell (block_lt_of_cell d2) (by simp;try omega)).trans d2,(hS.own.cell (block_lt_of_cell d3) (by simp;try omega)).trans d3⟩;clear hS))
  all_goals
   go_wp2_with fail
   go_ret
   exact fw hms.out hM2.out hO2.out
 ·rw[if_neg hok]at hms
  have hb:(k==2)=false:=by
   rw[Bool.eq_false_iff];intro hh;exact hok (by simpa using hh)
  rw[hb]at cT;unfold aL at cT;change Hid _ at hms;clear hM1 hA h hok hb hM2 dY zm Ev hnew hsz hq0 hq1 hq2;go_enter Tryz.func381,Tryz.ntmps381
  go_wp2_with fail
  go_region_held3(fun W=>W.cell? ⟨w.heap.size,0,none⟩=some (.int .i64 17)/\W.cell? ⟨w.heap.size,1,none⟩=some (.int .i64 k)/\W.cell? ⟨w.heap.size,2,none⟩=some (.int .u64 v)/\W.cell? ⟨w.heap.size,3,none⟩=some (.string t)) (go_keep) ((go_at_call 385;(with_reducible refine(cT.out _ (by exact fO.out)).mono ?_);rintro e w2 ⟨⟨ec,ay,rfl⟩,hS⟩;have hO2:=af (qX.out.trans hS.nil);replace ay:=af ay;have lW:w2.cell? ⟨w.heap.size,0,none⟩=some (.int .i64 17)/\w2.cell? ⟨w.heap.size,1,none⟩=some (.int .i64 k)/\w2.cell? ⟨w.heap.size,2,none⟩=some (.int .u64 v)/\w2.cell? ⟨w.heap.size,3,none⟩=some (.string t):=⟨(hS.cell (block_lt_of_cell d0) (by simp;try omega)).trans d0,(hS.cell (block_lt_of_cell d1) (by simp;try omega)).trans d1,(hS.cell (block_lt_of_cell d2) (by simp;try omega)).trans d2,(hS.cell (block_lt_of_cell d3) (by simp;try omega)).trans d3⟩;clear hS))
  all_goals
   go_wp2_with fail
   go_ret
   exact dZ hms.out ay.out hO2.out
theorem OG(b:Nat)(x:MT)(k v:Int)(t:ByteArray)(w:World)(h:bH w b x)(h0:0<=v)(h1:v<=18446744073709551615):
  Calls Tryz.prog 381 #[.pointer (some ⟨b,0,none⟩),.agg #[.int .i64 18,.int .i64 k,.int .u64 v,.string t]] w (bF (bn x ⟨18,k,v,t⟩) w b):=by
 have hms:bn x ⟨18,k,v,t⟩=if k=2 then some ({x with m:={x.m with v:=⟨9,0,⟨#[]⟩⟩},big:=t})else none:=by simp[bn]
 generalize bn x ⟨18,k,v,t⟩=R at hms⊢;have hA:=(ai.refl [] w).alloc (.cells #[.int .i64 18,.int .i64 k,.int .u64 v,.string t] 100);have hbl:=aj h;have hM1:bH (w.alloc (.cells #[.int .i64 18,.int .i64 k,.int .u64 v,.string t] 100)) b x:=h.own hA (by simp);obtain⟨⟨d0,d1,d2,d3⟩,_⟩:=q4 (heap_alloc_new w (.cells #[.int .i64 18,.int .i64 k,.int .u64 v,.string t] 100));obtain⟨ph0,pk0⟩:=h.cell 10 (u:=.int .i64 x.m.v.k) rfl;obtain⟨pc0,pz0⟩:=hM1.cell 10 (u:=.int .i64 x.m.v.k) rfl;have hq0:=heap_setCell_same w b 10 _ _ (.int .i64 9) h;obtain⟨ph1,pk1⟩:=h.cell 11 (u:=.int .u64 x.m.v.n) rfl;obtain⟨pc1,pz1⟩:=hM1.cell 11 (u:=.int .u64 x.m.v.n) rfl;have hq1:=heap_setCell_same (w.setCell ⟨b,10,none⟩ (.int .i64 9)) b 11 _ _ (.int .u64 0) hq0;obtain⟨ph2,pk2⟩:=h.cell 12 (u:=.string x.m.v.s) rfl;obtain⟨pc2,pz2⟩:=hM1.cell 12 (u:=.string x.m.v.s) rfl;have hq2:=heap_setCell_same ((w.setCell ⟨b,10,none⟩ (.int .i64 9)).setCell ⟨b,11,none⟩ (.int .u64 0)) b 12 _ _ (.string ⟨#[]⟩) hq1;have hM2:bH (((w.setCell ⟨b,10,none⟩ (.int .i64 9)).setCell ⟨b,11,none⟩ (.int .u64 0)).setCell ⟨b,12,none⟩ (.string ⟨#[]⟩)) b ({x with m:={x.m with v:=⟨9,0,⟨#[]⟩⟩}}):=by
  have hh:=hq2;unfold bH;rw[hh];rfl
 have zm:ai [b] w (((w.setCell ⟨b,10,none⟩ (.int .i64 9)).setCell ⟨b,11,none⟩ (.int .u64 0)).setCell ⟨b,12,none⟩ (.string ⟨#[]⟩)):=(((ai.refl [b] w).setCell (.inl (by simp)) _).setCell (.inl (by simp)) _).setCell (.inl (by simp)) _;have Ev:ai [b] w ((((w.setCell ⟨b,10,none⟩ (.int .i64 9)).setCell ⟨b,11,none⟩ (.int .u64 0)).setCell ⟨b,12,none⟩ (.string ⟨#[]⟩)).alloc (.cells #[.int .i64 18,.int .i64 k,.int .u64 v,.string t] 100)):=zm.alloc _;have dY:bH ((((w.setCell ⟨b,10,none⟩ (.int .i64 9)).setCell ⟨b,11,none⟩ (.int .u64 0)).setCell ⟨b,12,none⟩ (.string ⟨#[]⟩)).alloc (.cells #[.int .i64 18,.int .i64 k,.int .u64 v,.string t] 100)) b ({x with m:={x.m with v:=⟨9,0,⟨#[]⟩⟩}}):=hM2.own ((ai.refl [] _).alloc _) (by simp);have hsz:(((w.setCell ⟨b,10,none⟩ (.int .i64 9)).setCell ⟨b,11,none⟩ (.int .u64 0)).setCell ⟨b,12,none⟩ (.string ⟨#[]⟩)).heap.size=w.heap.size:=by simp
 have hnew:=heap_alloc_new (((w.setCell ⟨b,10,none⟩ (.int .i64 9)).setCell ⟨b,11,none⟩ (.int .u64 0)).setCell ⟨b,12,none⟩ (.string ⟨#[]⟩)) (.cells #[.int .i64 18,.int .i64 k,.int .u64 v,.string t] 100);rw[hsz]at hnew;clear d0 d1 d2 d3;obtain⟨⟨d0,d1,d2,d3⟩,_⟩:=q4 hnew;have cT:=af (fun W' (hm:bH W' b ({x with m:={x.m with v:=⟨9,0,⟨#[]⟩⟩}}))=>fV ⟨18,k,v,t⟩ b 18 _ W' (hm.cell 18 rfl).1 (hm.cell 18 rfl).2);have fO:=af (show bH (((((w.setCell ⟨b,10,none⟩ (.int .i64 9)).setCell ⟨b,11,none⟩ (.int .u64 0)).setCell ⟨b,12,none⟩ (.string ⟨#[]⟩)).alloc (.cells #[.int .i64 18,.int .i64 k,.int .u64 v,.string t] 100))).drew b ({x with m:={x.m with v:=⟨9,0,⟨#[]⟩⟩}})from dY);have qX:=af (show ai [b] w (((((w.setCell ⟨b,10,none⟩ (.int .i64 9)).setCell ⟨b,11,none⟩ (.int .u64 0)).setCell ⟨b,12,none⟩ (.string ⟨#[]⟩)).alloc (.cells #[.int .i64 18,.int .i64 k,.int .u64 v,.string t] 100))).drew from(Ev).drew);unfold fL at cT;simp only at cT;by_cases hok:k=2
 ·rw[if_pos hok]at hms
  have hb:(k==2)=true:=by simpa using hok
  rw[hb]at cT;unfold aL at cT;change Hid _ at hms;clear hM1 hA h hok hb hM2 dY zm Ev hnew hsz hq0 hq1 hq2;go_enter Tryz.func381,Tryz.ntmps381
  go_wp2_with fail
  go_region_held3(fun W=>W.cell? ⟨w.heap.size,0,none⟩=some (.int .i64 18)/\W.cell? ⟨w.heap.size,1,none⟩=some (.int .i64 k)/\W.cell? ⟨w.heap.size,2,none⟩=some (.int .u64 v)/\W.cell? ⟨w.heap.size,3,none⟩=some (.string t)) (go_keep) ((go_at_call 385;(with_reducible refine(cT.out _ (by exact fO.out)).mono ?_);rintro e w2 ⟨rfl,hS⟩;have hM2:=af (fO.out.set (x':={x with m:={x.m with v:=⟨9,0,⟨#[]⟩⟩},big:=t}) hS rfl);have hO2:=af (qX.out.trans hS.own);have lW:w2.cell? ⟨w.heap.size,0,none⟩=some (.int .i64 18)/\w2.cell? ⟨w.heap.size,1,none⟩=some (.int .i64 k)/\w2.cell? ⟨w.heap.size,2,none⟩=some (.int .u64 v)/\w2.cell? ⟨w.heap.size,3,none⟩=some (.string t):=⟨(hS.own.cell (block_lt_of_cell d0) (by simp;try omega)).trans d0,(hS.own.cell (block_lt_of_cell d1) (by simp;try omega)).trans d1,(hS.own.cell (block_lt_of_cell d2) (by simp;try omega)).trans d2,(hS.own.cell (block_lt_of_cell d3) (by simp;try omega)).trans d3⟩;clear hS))
  all_goals
   go_wp2_with fail
   go_ret
   exact fw hms.out hM2.out hO2.out
 ·rw[if_neg hok]at hms
  have hb:(k==2)=false:=by
   rw[Bool.eq_false_iff];intro hh;exact hok (by simpa using hh)
  rw[hb]at cT;unfold aL at cT;change Hid _ at hms;clear hM1 hA h hok hb hM2 dY zm Ev hnew hsz hq0 hq1 hq2;go_enter Tryz.func381,Tryz.ntmps381
  go_wp2_with fail
  go_region_held3(fun W=>W.cell? ⟨w.heap.size,0,none⟩=some (.int .i64 18)/\W.cell? ⟨w.heap.size,1,none⟩=some (.int .i64 k)/\W.cell? ⟨w.heap.size,2,none⟩=some (.int .u64 v)/\W.cell? ⟨w.heap.size,3,none⟩=some (.string t)) (go_keep) ((go_at_call 385;(with_reducible refine(cT.out _ (by exact fO.out)).mono ?_);rintro e w2 ⟨⟨ec,ay,rfl⟩,hS⟩;have hO2:=af (qX.out.trans hS.nil);replace ay:=af ay;have lW:w2.cell? ⟨w.heap.size,0,none⟩=some (.int .i64 18)/\w2.cell? ⟨w.heap.size,1,none⟩=some (.int .i64 k)/\w2.cell? ⟨w.heap.size,2,none⟩=some (.int .u64 v)/\w2.cell? ⟨w.heap.size,3,none⟩=some (.string t):=⟨(hS.cell (block_lt_of_cell d0) (by simp;try omega)).trans d0,(hS.cell (block_lt_of_cell d1) (by simp;try omega)).trans d1,(hS.cell (block_lt_of_cell d2) (by simp;try omega)).trans d2,(hS.cell (block_lt_of_cell d3) (by simp;try omega)).trans d3⟩;clear hS))
  all_goals
   go_wp2_with fail
   go_ret
   exact dZ hms.out ay.out hO2.out
end Go.Proofs.YtedcakchekaemaaGreatDoor
