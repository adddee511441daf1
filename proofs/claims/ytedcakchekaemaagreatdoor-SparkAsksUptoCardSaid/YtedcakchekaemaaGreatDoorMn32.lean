import Derived.Test.YtedcakchekaemaaGreatDoorMn29
import Derived.Test.YtedcakchekaemaaGreatDoorMn26
import Derived.Test.YtedcakchekaemaaGreatDoorMn31
set_option maxRecDepth 100000
set_option maxHeartbeats 16000000
set_option linter.all false
namespace Go.Proofs.YtedcakchekaemaaGreatDoor
open Go.RowKit
variable [Kd]
def qw(x:MT)(s1 s2 s3 s4:Sh):Array Value:=#[.string x.m.name,.bool x.m.has,.int .u64 x.m.al,.int .u64 x.m.time,.int .u32 x.m.ty,.bool x.m.hist,.bool x.m.trans,.bool x.m.null,.slice s1.a s1.n s1.c,.slice s2.a s2.n s2.c,.int .i64 x.m.v.k,.int .u64 x.m.v.n,.string x.m.v.s,.slice s3.a s3.n s3.c,.slice s4.a s4.n s4.c,.string x.meta',.bool x.told,.string x.props,.string x.big]
def vY(w:World)(b:Nat)(x:MT)(s1 s2 s3 s4:Sh):Prop:=w.heap[b]?=some (.cells (qw x s1 s2 s3 s4) 378 (0,0))
def Sh.nil:Sh:=⟨none,0,0⟩
theorem bH.e{w:World}{b:Nat}{x:MT}(h:bH w b x):vY w b x Sh.nil Sh.nil Sh.nil Sh.nil:=h
theorem vY.own{S:List Nat}{w w':World}{b:Nat}{x:MT}{s1 s2 s3 s4:Sh}(h:vY w b x s1 s2 s3 s4)(ho:ai S w w')(hb:b∉S):vY w' b x s1 s2 s3 s4:=ai.heap ho h hb
theorem vY.cell{w:World}{b:Nat}{x:MT}{s1 s2 s3 s4:Sh}(h:vY w b x s1 s2 s3 s4)(i:Nat){u:Value}(hu:(qw x s1 s2 s3 s4)[i]?=some u):w.cell? ⟨b,i,none⟩=some u/\w.frozen? ⟨b,i,none⟩=false:=
 ⟨by rw[cell_of_row _ _ _ _ _ _ h];exact hu,frozen_of_row _ b i _ _ h⟩
theorem vY.set{w:World}{b:Nat}{x:MT}{s1 s2 s3 s4 t1 t2 t3 t4:Sh}(h:vY w b x s1 s2 s3 s4)(i:Nat)(u:Value)(hx:(qw x s1 s2 s3 s4).setIfInBounds i u=qw x t1 t2 t3 t4):vY (w.setCell ⟨b,i,none⟩ u) b x t1 t2 t3 t4/\ai [b] w (w.setCell ⟨b,i,none⟩ u):=by
 have h1:=heap_setCell_same w b i _ _ u h;rw[hx]at h1;exact⟨h1,(ai.refl [b] w).setCell (.inl (by simp)) _⟩
def Bq(ok:Bool)(w:World)(b:Nat)(x:MT)(s1 s2:Sh)(e:Ending)(w':World):Prop:=
 match ok with
 |true=>e=.returned (.int .i64 0)/\(∃t3 t4,vY w' b x s1 s2 t3 t4)/\ai [b] w w'
 |false=>(∃ec:Int,ec≠0/\e=.returned (.int .i64 ec))/\ai [b] w w'
theorem Ls(w:World)(b:Nat)(x:MT)(s1 s2 s3 s4:Sh)(deep:Int)(h:vY w b x s1 s2 s3 s4)(h8:x.m.v.k≠8)(h9:x.m.v.k≠9):
  Calls Tryz.prog 384 #[.pointer (some ⟨b,0,none⟩),.int .i64 deep] w (Bq true w b x s1 s2):=by
 obtain⟨c10,_⟩:=h.cell 10 (u:=.int .i64 x.m.v.k) rfl;have q8:(x.m.v.k==8)=false:=by simpa using h8
 have q9:(x.m.v.k==9)=false:=by simpa using h9
 change Hid _ at h;clear h8 h9;go_enter Tryz.func384,Tryz.ntmps384
 go_wp2_with fail
 go_ret
 exact⟨rfl,⟨s3,s4,h.out⟩,ai.refl _ _⟩
theorem PN(w:World)(b:Nat)(x:MT)(s1 s2 s3 s4:Sh)(deep:Int)(h:vY w b x s1 s2 s3 s4)(h8:x.m.v.k=8)(hs:x.big.size<=4096)(hK:aN w):
  Calls Tryz.prog 384 #[.pointer (some ⟨b,0,none⟩),.int .i64 deep] w (Bq (yT (ak x.big)) w b x s1 s2):=by
 obtain⟨c10,_⟩:=h.cell 10 (u:=.int .i64 x.m.v.k) rfl;obtain⟨c18,_⟩:=h.cell 18 (u:=.string x.big) rfl;rw[h8]at c10;obtain⟨w1,c,hcv,aH,cD⟩:=Pw x.big w hs hK;obtain⟨ok,hok⟩: ∃ok,yT (ak x.big)=ok:=⟨_,rfl⟩;rw[hok]at cD⊢;replace cD:=af cD;replace h:=af h;clear hok aH hK h8;go_enter Tryz.func384,Tryz.ntmps384
 go_wp2_with fail
 refine cD.out.mono ?_;intro e w2 hp;clear hcv;cases ok with
 |true=>
  obtain⟨⟨a1,n1,k1,a2,n2,k2,a3,n3,k3,rfl⟩,hO⟩:=hp;have hB:=(ai.refl [] w2).alloc (.cells #[.slice a1 n1 k1,.slice a2 n2 k2,.slice a3 n3 k3] 244);obtain⟨⟨d0,d1,d2⟩,-⟩:=q3 (heap_alloc_new w2 (.cells #[.slice a1 n1 k1,.slice a2 n2 k2,.slice a3 n3 k3] 244));have h2:=h.out.own hO (by simp);have hb2:=aj h2;obtain⟨e13,z13⟩:=h2.cell 13 (u:=.slice s3.a s3.n s3.c) rfl;obtain⟨f13,y13⟩:=(h2.own hB (by simp)).cell 13 (u:=.slice s3.a s3.n s3.c) rfl;replace h2:=af h2;replace hO:=af hO;clear cD h hB;go_wp2_with fail
  go_ret
  obtain⟨hE,iW⟩:=h2.out.set (t1:=s1) (t2:=s2) (t3:=⟨some ⟨w2.heap.size+1,0,none⟩,1,1⟩) (t4:=s4) 13 (.slice (some ⟨w2.heap.size+1,0,none⟩) 1 1) rfl;exact⟨rfl,⟨_,_,(hE.own ((ai.refl [] _).alloc _) (by simp)).own ((ai.refl [] _).alloc _) (by simp)⟩,((hO.out.nil.trans iW).alloc _).alloc _⟩
 |false=>
  obtain⟨⟨ec,ay,rfl⟩,hO⟩:=hp;have hB:=(ai.refl [] w2).alloc (.cells #[.slice none 0 0,.slice none 0 0,.slice none 0 0] 244);obtain⟨⟨d0,d1,d2⟩,-⟩:=q3 (heap_alloc_new w2 (.cells #[.slice none 0 0,.slice none 0 0,.slice none 0 0] 244));have h2:=h.out.own hO (by simp);have hb2:=aj h2;obtain⟨e13,z13⟩:=h2.cell 13 (u:=.slice s3.a s3.n s3.c) rfl;obtain⟨f13,y13⟩:=(h2.own hB (by simp)).cell 13 (u:=.slice s3.a s3.n s3.c) rfl;change Hid _ at ay;replace h2:=af h2;replace hO:=af hO;clear cD h hB;go_wp2_with fail
  go_ret
  obtain⟨hE,iW⟩:=h2.out.set (t1:=s1) (t2:=s2) (t3:=⟨some ⟨w2.heap.size+1,0,none⟩,1,1⟩) (t4:=s4) 13 (.slice (some ⟨w2.heap.size+1,0,none⟩) 1 1) rfl;exact⟨⟨ec,ay.out,rfl⟩,((hO.out.nil.trans iW).alloc _).alloc _⟩
def Br(ok:Bool)(w:World)(e:Ending)(w':World):Prop:=
 match ok with
 |true=>(∃z1 z2 z3 a1 n1 k1 a2 n2 k2,e=.returned (.tuple #[.agg #[.string z1,.string z2,.bool z3,.slice a1 n1 k1,.slice a2 n2 k2],.int .i64 0]))/\ai [] w w'
 |false=>(∃z1 z2 z3 a1 n1 k1 a2 n2 k2,∃ec:Int,ec≠0/\e=.returned (.tuple #[.agg #[.string z1,.string z2,.bool z3,.slice a1 n1 k1,.slice a2 n2 k2],.int .i64 ec]))/\ai [] w w'
def D8(g:List Int->Bool)(deep:Int):Prop:= ∀(t:ByteArray) (W:World),t.size<=4096->aN W->Calls Tryz.prog 393 #[.string t,.int .i64 deep] W (Br (g (ak t)) W)
theorem GR(g:List Int->Bool)(w:World)(b:Nat)(x:MT)(s1 s2 s3 s4:Sh)(deep:Int)(h:vY w b x s1 s2 s3 s4)(h9:x.m.v.k=9)(hs:x.big.size<=4096)(hK:aN w)(hd:0<=deep/\deep<=100)(IH:D8 g (deep+1)):
  Calls Tryz.prog 384 #[.pointer (some ⟨b,0,none⟩),.int .i64 deep] w (Bq (g (ak x.big)) w b x s1 s2):=by
 obtain⟨c10,_⟩:=h.cell 10 (u:=.int .i64 x.m.v.k) rfl;obtain⟨c18,_⟩:=h.cell 18 (u:=.string x.big) rfl;rw[h9]at c10;have cD:=IH x.big w hs hK;have hwd:IntKind.i64.wrap (deep+1)=deep+1:=IntWalk.i64_in _ (by omega);obtain⟨ok,hok⟩: ∃ok,g (ak x.big)=ok:=⟨_,rfl⟩;rw[hok]at cD⊢;replace cD:=af cD;replace h:=af h;clear hok hK h9 IH hd;go_enter Tryz.func384,Tryz.ntmps384
 go_wp2_with fail
 refine cD.out.mono ?_;intro e w2 hp;cases ok with
 |true=>
  obtain⟨⟨z1,z2,z3,a1,n1,k1,a2,n2,k2,rfl⟩,hO⟩:=hp;have hB:=(ai.refl [] w2).alloc (.cells #[.string z1,.string z2,.bool z3,.slice a1 n1 k1,.slice a2 n2 k2] 249);have hr:=heap_alloc_new w2 (.cells #[.string z1,.string z2,.bool z3,.slice a1 n1 k1,.slice a2 n2 k2] 249);have d0:(w2.alloc (.cells #[.string z1,.string z2,.bool z3,.slice a1 n1 k1,.slice a2 n2 k2] 249)).cell? ⟨w2.heap.size,0,none⟩=some (.string z1):=cell_of_row _ _ 0 _ _ _ hr;have d1:(w2.alloc (.cells #[.string z1,.string z2,.bool z3,.slice a1 n1 k1,.slice a2 n2 k2] 249)).cell? ⟨w2.heap.size,1,none⟩=some (.string z2):=cell_of_row _ _ 1 _ _ _ hr;have d2:(w2.alloc (.cells #[.string z1,.string z2,.bool z3,.slice a1 n1 k1,.slice a2 n2 k2] 249)).cell? ⟨w2.heap.size,2,none⟩=some (.bool z3):=cell_of_row _ _ 2 _ _ _ hr;have d3:(w2.alloc (.cells #[.string z1,.string z2,.bool z3,.slice a1 n1 k1,.slice a2 n2 k2] 249)).cell? ⟨w2.heap.size,3,none⟩=some (.slice a1 n1 k1):=cell_of_row _ _ 3 _ _ _ hr;have d4:(w2.alloc (.cells #[.string z1,.string z2,.bool z3,.slice a1 n1 k1,.slice a2 n2 k2] 249)).cell? ⟨w2.heap.size,4,none⟩=some (.slice a2 n2 k2):=cell_of_row _ _ 4 _ _ _ hr;have h2:=h.out.own hO (by simp);have hb2:=aj h2;obtain⟨e14,z14⟩:=h2.cell 14 (u:=.slice s4.a s4.n s4.c) rfl;obtain⟨f14,X8⟩:=(h2.own hB (by simp)).cell 14 (u:=.slice s4.a s4.n s4.c) rfl;replace h2:=af h2;replace hO:=af hO;clear cD h hB hr;go_wp2_with fail
  go_ret
  obtain⟨hE,iW⟩:=h2.out.set (t1:=s1) (t2:=s2) (t3:=s3) (t4:=⟨some ⟨w2.heap.size+1,0,none⟩,1,1⟩) 14 (.slice (some ⟨w2.heap.size+1,0,none⟩) 1 1) rfl;exact⟨rfl,⟨_,_,(hE.own ((ai.refl [] _).alloc _) (by simp)).own ((ai.refl [] _).alloc _) (by simp)⟩,((hO.out.nil.trans iW).alloc _).alloc _⟩
 |false=>
  obtain⟨⟨z1,z2,z3,a1,n1,k1,a2,n2,k2,ec,ay,rfl⟩,hO⟩:=hp;have hB:=(ai.refl [] w2).alloc (.cells #[.string z1,.string z2,.bool z3,.slice a1 n1 k1,.slice a2 n2 k2] 249);have hr:=heap_alloc_new w2 (.cells #[.string z1,.string z2,.bool z3,.slice a1 n1 k1,.slice a2 n2 k2] 249);have d0:(w2.alloc (.cells #[.string z1,.string z2,.bool z3,.slice a1 n1 k1,.slice a2 n2 k2] 249)).cell? ⟨w2.heap.size,0,none⟩=some (.string z1):=cell_of_row _ _ 0 _ _ _ hr;have d1:(w2.alloc (.cells #[.string z1,.string z2,.bool z3,.slice a1 n1 k1,.slice a2 n2 k2] 249)).cell? ⟨w2.heap.size,1,none⟩=some (.string z2):=cell_of_row _ _ 1 _ _ _ hr;have d2:(w2.alloc (.cells #[.string z1,.string z2,.bool z3,.slice a1 n1 k1,.slice a2 n2 k2] 249)).cell? ⟨w2.heap.size,2,none⟩=some (.bool z3):=cell_of_row _ _ 2 _ _ _ hr;have d3:(w2.alloc (.cells #[.string z1,.string z2,.bool z3,.slice a1 n1 k1,.slice a2 n2 k2] 249)).cell? ⟨w2.heap.size,3,none⟩=some (.slice a1 n1 k1):=cell_of_row _ _ 3 _ _ _ hr;have d4:(w2.alloc (.cells #[.string z1,.string z2,.bool z3,.slice a1 n1 k1,.slice a2 n2 k2] 249)).cell? ⟨w2.heap.size,4,none⟩=some (.slice a2 n2 k2):=cell_of_row _ _ 4 _ _ _ hr;have h2:=h.out.own hO (by simp);have hb2:=aj h2;obtain⟨e14,z14⟩:=h2.cell 14 (u:=.slice s4.a s4.n s4.c) rfl;obtain⟨f14,X8⟩:=(h2.own hB (by simp)).cell 14 (u:=.slice s4.a s4.n s4.c) rfl;change Hid _ at ay;replace h2:=af h2;replace hO:=af hO;clear cD h hB hr;go_wp2_with fail
  go_ret
  obtain⟨hE,iW⟩:=h2.out.set (t1:=s1) (t2:=s2) (t3:=s3) (t4:=⟨some ⟨w2.heap.size+1,0,none⟩,1,1⟩) 14 (.slice (some ⟨w2.heap.size+1,0,none⟩) 1 1) rfl;exact⟨⟨ec,ay.out,rfl⟩,((hO.out.nil.trans iW).alloc _).alloc _⟩
theorem Ea(g:List Int->Bool)(w:World)(b:Nat)(x:MT)(s1 s2 s3 s4:Sh)(deep:Int)(h:vY w b x s1 s2 s3 s4)(hs:x.big.size<=4096)(hK:aN w)(hd:0<=deep/\deep<=100)(IH:D8 g (deep+1)):
  Calls Tryz.prog 384 #[.pointer (some ⟨b,0,none⟩),.int .i64 deep] w (Bq (if x.m.v.k=8 then yT (ak x.big)else if x.m.v.k=9 then g (ak x.big)else true) w b x s1 s2):=by
 by_cases h8:x.m.v.k=8
 ·rw[if_pos h8];exact PN w b x s1 s2 s3 s4 deep h h8 hs hK
 ·rw[if_neg h8]
  by_cases h9:x.m.v.k=9
  ·rw[if_pos h9];exact GR g w b x s1 s2 s3 s4 deep h h9 hs hK hd IH
  ·rw[if_neg h9];exact Ls w b x s1 s2 s3 s4 deep h h8 h9
theorem aN.own'{S:List Nat}{w w':World}(h:aN w)(ho:ai S w w')(hn:5∉S):aN w':=fun k hk=>(ho.cell (block_lt_of_cell (h k hk)) hn).trans (h k hk)
def yY(g:List Int->Bool)(x:MT):Bool:=if x.m.v.k=8 then yT (ak x.big)else if x.m.v.k=9 then g (ak x.big)else true
def yu(ok:Bool)(w:World)(b:Nat)(x:MT)(e:Ending)(w':World):Prop:=
 match ok with
 |true=>e=.returned (.int .i64 0)/\(∃t1 t2 t3 t4,vY w' b x t1 t2 t3 t4)/\ai [b] w w'
 |false=>(∃ec:Int,ec≠0/\e=.returned (.int .i64 ec))/\ai [b] w w'
theorem Bv(g:List Int->Bool)(w:World)(b:Nat)(x:MT)(s1 s2 s3 s4:Sh)(deep:Int)(h:vY w b x s1 s2 s3 s4)(ht:x.told=false)(hp:x.props.size<=4096)(hs:x.big.size<=4096)(hK:aN w)(hd:0<=deep/\deep<=100)(hbk:5≠b)(IH:D8 g (deep+1)):
  Calls Tryz.prog 380 #[.pointer (some ⟨b,0,none⟩),.int .i64 deep] w (yu (o8 8 (ak x.props)&&yY g x) w b x):=by
 obtain⟨c16,_⟩:=h.cell 16 (u:=.bool x.told) rfl;obtain⟨c17,_⟩:=h.cell 17 (u:=.string x.props) rfl;rw[ht]at c16;obtain⟨w1,c,hcv,aH,cP⟩:=I5 x.props w hp hK;have cV:=fun W t2 (hW:vY W b x s1 t2 s3 s4) (hKW:aN W)=>Ea g W b x s1 t2 s3 s4 deep hW hs hKW hd IH
 have hKo:=fun W' (ho:ai [b] w W')=>hK.own' ho (by simpa using hbk)
 change Hid _ at cV hK hKo;replace cP:=af cP;replace h:=af h;generalize o8 8 (ak x.props)=po at*;change Calls _ _ _ _ (yu (po&&yY g x) w b x);have Ui:(if x.m.v.k=8 then yT (ak x.big)else if x.m.v.k=9 then g (ak x.big)else true)=yY g x:=rfl;rw[Ui]at cV;generalize yY g x=vo at*;clear aH ht IH hd Ui;go_enter Tryz.func380,Tryz.ntmps380
 go_wp2_with fail
 refine cP.out.mono ?_;intro e w2 hp2;clear hcv cP;cases po with
 |false=>
  obtain⟨⟨ec,ay,rfl⟩,hO⟩:=hp2;have h2:=h.out.own hO (by simp);obtain⟨e9,z9⟩:=h2.cell 9 (u:=.slice s2.a s2.n s2.c) rfl;have o6:=af ((hO.nil (S:=[b])).setCell (p:=⟨b,9,none⟩) (.inl (by simp)) (.slice none 0 0));have q:(ec !=0)=true:=by simpa using ay
  change Hid _ at ay;clear h2 hO h cV;go_wp2_with fail
  go_ret
  exact⟨⟨ec,ay.out,rfl⟩,o6.out⟩
 |true=>
  obtain⟨⟨a2,n2,k2,rfl⟩,hO⟩:=hp2;have h2:=h.out.own hO (by simp);obtain⟨e9,z9⟩:=h2.cell 9 (u:=.slice s2.a s2.n s2.c) rfl;obtain⟨hE,iW⟩:=h2.set (t1:=s1) (t2:=⟨a2,n2,k2⟩) (t3:=s3) (t4:=s4) 9 (.slice a2 n2 k2) rfl;have hK2:aN (w2.setCell ⟨b,9,none⟩ (.slice a2 n2 k2)):=hKo.out _ ((hO.nil (S:=[b])).trans iW);have Xe:=af (cV.out _ ⟨a2,n2,k2⟩ hE hK2);have o6:=af ((hO.nil (S:=[b])).trans iW);clear h2 hO h cV hE iW hK2;go_wp2_with fail
  refine Xe.out.mono ?_;intro e w3 hp3;cases vo with
  |true=>
   obtain⟨rfl,hx,hO3⟩:=hp3;change Hid _ at hx;replace hO3:=af (o6.out.trans hO3);go_wp2_with fail
   go_ret
   obtain⟨t3,t4,hx⟩:=hx.out;exact⟨rfl,⟨_,_,_,_,hx⟩,hO3.out⟩
  |false=>
   obtain⟨⟨ec,ay,rfl⟩,hO3⟩:=hp3;change Hid _ at ay;replace hO3:=af (o6.out.trans hO3);go_wp2_with fail
   go_ret
   exact⟨⟨ec,ay.out,rfl⟩,hO3.out⟩
theorem SB:(Tryz.prog.info? 109).map (fun i=>(i.zero,i.size,i.bytes))=some (some (.agg #[.string ⟨#[]⟩,.bool false,.int .u64 0,.int .u64 0,.int .u32 0,.bool false,.bool false,.bool false,.slice none 0 0,.slice none 0 0,.int .i64 0,.int .u64 0,.string ⟨#[]⟩,.slice none 0 0,.slice none 0 0]),15,176):=by kernel_rfl
theorem Jd:je Tryz.prog 52 109 bP.cells 15 176 where
 ut:=Tryz.underlying52
 info:=by obtain⟨i,h1,h2,h3,h4⟩:=info_parts SB;exact⟨i,_,h1,h2,h3,h4,rfl⟩
 pos:=by omega
 len:=fun _=>rfl
 one x u hu:=by simp only[bP.cells,List.mem_cons,List.not_mem_nil,or_false]at hu;rcases hu with rfl|rfl|rfl|rfl|rfl|rfl|rfl|rfl|rfl|rfl|rfl|rfl|rfl|rfl|rfl<;>rfl
def XK(p:GI):List Value:=[.string p.nm,.int .u32 p.ty,.int .i64 p.v.k,.int .u64 p.v.n,.string p.v.s]
theorem VU:(Tryz.prog.info? 307).map (fun i=>(i.zero,i.size,i.bytes))=some (some (.agg #[.string ⟨#[]⟩,.int .u32 0,.int .i64 0,.int .u64 0,.string ⟨#[]⟩]),5,56):=by kernel_rfl
theorem VW:je Tryz.prog 247 307 XK 5 56 where
 ut:=Tryz.underlying247
 info:=by obtain⟨i,h1,h2,h3,h4⟩:=info_parts VU;exact⟨i,_,h1,h2,h3,h4,rfl⟩
 pos:=by omega
 len:=fun _=>rfl
 one x u hu:=by simp only[XK,List.mem_cons,List.not_mem_nil,or_false]at hu;rcases hu with rfl|rfl|rfl|rfl|rfl<;>rfl
def qV(r:Option PM)(w:World)(e:Ending)(w':World):Prop:=
 match r with
 |some m=>(∃x:bP,x.pl=m/\x.wf/\e=.returned (.tuple #[x.val,.int .i64 0]))/\ai [] w w'
 |none=>(∃(x:bP) (ec:Int),ec≠0/\e=.returned (.tuple #[x.val,.int .i64 ec]))/\ai [] w w'
def LC(g:List Int->Option PM)(deep:Int):Prop:= ∀(t:ByteArray) (W:World),t.size<=4096->aN W->Calls Tryz.prog 213 #[.string t,.int .i64 deep] W (qV (g (ak t)) W)
theorem aA.strAt{w:World}{a:Option Addr}{n c:Nat}{l:List ByteArray}(h:aA BM w (.slice a n c) l){k:Nat}(hk:k<l.length): ∃b o,a=some ⟨b,o,none⟩/\w.cell? ⟨b,o+k,none⟩=some (.string l[k]):=by
 obtain⟨b,o,rfl,hx⟩:=h.at_ (k:=1) (fun _=>rfl) (by omega);have:=hx k _ 0 _ (List.getElem?_eq_getElem hk) rfl;exact⟨b,o,rfl,by simpa using this⟩
theorem U7{w:World}{b:Nat}{x0 x1 x2 x3 x4 x5:Value}{T:TypeId}(h:w.heap[b]?=some (.cells #[x0,x1,x2,x3,x4,x5] T (0,0))):
  w.cell? ⟨b,0,none⟩=some x0/\w.cell? ⟨b,1,none⟩=some x1/\w.cell? ⟨b,2,none⟩=some x2/\w.cell? ⟨b,3,none⟩=some x3/\w.cell? ⟨b,4,none⟩=some x4/\w.cell? ⟨b,5,none⟩=some x5:=
 ⟨cell_of_row _ _ 0 _ _ _ h,cell_of_row _ _ 1 _ _ _ h,cell_of_row _ _ 2 _ _ _ h,cell_of_row _ _ 3 _ _ _ h,cell_of_row _ _ 4 _ _ _ h,cell_of_row _ _ 5 _ _ _ h⟩
def Bw(ok:Bool)(W0:World)(b:Nat)(e:Ending)(w':World):Prop:=
 match ok with
 |true=>e=.returned (.int .i64 0)/\(∃(p:EG) (t3 t4 t5 t6:Sh),w'.heap[b]?=some (.cells #[.string p.ver,.string p.ref,.bool p.df,.slice t3.a t3.n t3.c,.slice t4.a t4.n t4.c,.slice t5.a t5.n t5.c,.slice t6.a t6.n t6.c] 551 (0,0)))/\ai [] W0 w'
 |false=>(∃ec:Int,ec≠0/\e=.returned (.int .i64 ec))/\ai [] W0 w'
theorem uZ{ok:Bool}{W0 w':World}{b:Nat}{ec:Int}(h:ok=false)(ay:ec≠0)(ho:ai [] W0 w'):Bw ok W0 b (.returned (.int .i64 ec)) w':=by subst h;exact⟨⟨ec,ay,rfl⟩,ho⟩
theorem GX(g:List Int->Option PM)(W0 w:World)(b:Nat)(p:EG)(mv nv:Value)(M N:List ByteArray)(deep:Int)(h:uz W0 w b p mv nv M N)(hM: ∀s∈M,s.size<=4096)(hN: ∀s∈N,s.size<=4096)(hK:aN W0)(IH:LC g deep):
  Calls Tryz.prog 440 #[.pointer (some ⟨b,0,none⟩),.int .i64 deep] w (Bw (decide (M.length<=64)&&decide (N.length<=32)&&M.all (fun s=>(g (ak s)).isSome)&&N.all (fun s=>vV (ak s))) W0 b):=by
 obtain⟨ok,hok⟩: ∃ok,(decide (M.length<=64)&&decide (N.length<=32)&&M.all (fun s=>(g (ak s)).isSome)&&N.all (fun s=>vV (ak s)))=ok:=⟨_,rfl⟩;rw[hok];obtain⟨ma,mc,rfl⟩:=h.m.sl;obtain⟨na,nc,rfl⟩:=h.n.sl;obtain⟨c5,_⟩:=h.cell 5 (u:=.slice ma M.length mc) rfl;obtain⟨c6,_⟩:=h.cell 6 (u:=.slice na N.length nc) rfl;by_cases hm:64<M.length
 ·have aF:ok=false:=by rw[<-hok];simp;omega
  have q1:decide ((M.length:Int)>64)=true:=by simp;omega
  have q2:(64:Int)<M.length:=by omega
  change Hid _ at aF;replace h:=af h;clear hok hM hN hK IH hm;go_enter Tryz.func440,Tryz.ntmps440
  go_wp2_with fail
  go_ret
  exact uZ aF.out (by decide) h.out.own
 by_cases hn:32<N.length
 ·have aF:ok=false:=by rw[<-hok];simp;omega
  have q1: ¬(64:Int)<M.length:=by omega
  have q2:(32:Int)<N.length:=by omega
  change Hid _ at aF;replace h:=af h;clear hok hM hN hK IH hm hn;go_enter Tryz.func440,Tryz.ntmps440
  go_wp2_with fail
  go_ret
  exact uZ aF.out (by decide) h.out.own
 have q1: ¬(64:Int)<M.length:=by omega
 have q2: ¬(32:Int)<N.length:=by omega
 have hbl:=aj h.row;have hJ0:iT 109 bP.cells 15 w w b #[.string p.ver,.string p.ref,.bool p.df,.slice none 0 0,.slice none 0 0,.slice ma M.length mc,.slice na N.length nc] 551 4 (.slice none 0 0) ([]:List bP):=⟨ai.refl _ _,h.row,hbl,by simp,Sl.nil _ _ _⟩;have ZQ:=af (h.m.reads (fun _=>rfl));have hRn:=af (h.n.reads (fun _=>rfl));have hmb:=af (fun g (hg:(Value.slice ma M.length mc).ownBlock=some g)=>h.rm g hg);have hnb:=af (fun g (hg:(Value.slice na N.length nc).ownBlock=some g)=>h.rn g hg);have eu:=af h.own;have hbase:=af h.base;have hW:Hid (∀W,ai [b] w W->ai [] W0 W):=af fun W ho=>eu.out.trans' ho (fun x hx=>.inr (by simp at hx;subst hx;exact hbase.out))
 have hK':Hid (∀W,ai [b] w W->aN W):=af fun W ho=>hK.own (hW.out W ho)
 have UI:=af (Nat.not_lt.1 hm);have hn32:=af (Nat.not_lt.1 hn);change Hid _ at hJ0 hok hM hN IH;clear hm hn h hK;go_enter Tryz.func440,Tryz.ntmps440
 go_wp2_with fail
 clear c5 c6;go_loopg[32] M.length (fun gg s32 wr=> ∃(k:Nat) (v:Value) (L:List bP),k<=M.length/\gg=M.length-k/\s32=.int .i64 k/\Aside (iT 109 bP.cells 15 w wr b #[.string p.ver,.string p.ref,.bool p.df,.slice none 0 0,.slice none 0 0,.slice ma M.length mc,.slice na N.length nc] 551 4 v L/\L.length=k/\(M.take k).all (fun s=>(g (ak s)).isSome)=true))
 case atStart=>exact⟨0,_,[],by omega,by omega,rfl,hJ0.out,rfl,by simp⟩
 case round=>
  obtain⟨k,v,L,hk,rfl,rfl,hJ,hLk,hgood⟩:=hrel;have k0:(0:Int)<=k:=by omega
  obtain⟨va,vc,rfl⟩:=hJ.r.sl;by_cases hlt:k<M.length
  ·have k1:(k:Int)<M.length:=by omega
   have hwk:IntKind.i64.wrap ((k:Int)+1)=(k:Int)+1:=IntWalk.i64_in _ (by have:=UI.out;omega);obtain⟨b1,o1,rfl,hc1⟩:=(ZQ.out.own hJ.own (fun g hg=>by simpa using hmb.out g hg)).strAt hlt;have hs:=hM.out M[k] (List.getElem_mem hlt);have hnext:(g (ak M[k])).isSome=true->(M.take (k+1)).all (fun s=>(g (ak s)).isSome)=true:=fun hh=>by
    rw[List.take_succ_eq_append_getElem hlt,List.all_append,hgood];simp[hh]
   have hbad:g (ak M[k])=none->ok=false:=fun hh=>by
    rw[<-hok.out,show M.all (fun s=>(g (ak s)).isSome)=false by rw[List.all_eq_false];exact⟨M[k],List.getElem_mem hlt,by simp[hh]⟩];simp
   generalize M[k]=s at*;have cO:=IH.out s wr hs (hK'.out wr hJ.own);have hLk':L.length<=63:=by have:=UI.out;omega
   have hl1:=af (show(L.length+1)*176<=140737488355328 by omega);have hl2:=af (show L.length+1<=maxLen by unfold maxLen;omega);have hl3:=af (show∀x:bP,(L++[x]).length=L.length+1 by simp);change Hid _ at hLk;replace hJ:=af hJ;clear hLk' hgood hs hJ0;cases hr:g (ak s)with
   |none=>
    rw[hr]at cO;have aF:=af (hbad hr);replace cO:=af cO;clear hnext hbad hr;go_wp2_with fail
    refine cO.out.mono ?_;rintro e w3 ⟨⟨⟨x1,x2,x3,x4,x5,x6,x7,x8,⟨y1,y2,y3⟩,⟨y4,y5,y6⟩,x9,x10,pz,⟨y7,y8,y9⟩,⟨wK,wL,wM⟩⟩,ec,ay,rfl⟩,hO3⟩;unfold bP.val bP.cells;simp only;have q:(ec !=0)=true:=by simpa using ay
    have Xo:=af (hW.out _ ((hJ.out.own.trans hO3.nil).trans ((ai.refl [b] w3).alloc (.cells #[.string x1,.bool x2,.int .u64 x3,.int .u64 x4,.int .u32 x5,.bool x6,.bool x7,.bool x8,.slice y1 y2 y3,.slice y4 y5 y6,.int .i64 x9,.int .u64 x10,.string pz,.slice y7 y8 y9,.slice wK wL wM] 109))));change Hid _ at ay;clear cO hJ hO3;go_wp2_with fail
    go_ret
    exact uZ aF.out ay.out Xo.out
   |some m=>
    rw[hr]at cO;have hg:=af (hnext (by rw[hr];rfl));replace cO:=af cO;clear hnext hbad hr;go_wp2_with fail
    refine cO.out.mono ?_;rintro e w3 ⟨⟨⟨x1,x2,x3,x4,x5,x6,x7,x8,⟨y1,y2,y3⟩,⟨y4,y5,y6⟩,x9,x10,pz,⟨y7,y8,y9⟩,⟨wK,wL,wM⟩⟩,_,_,rfl⟩,hO3⟩;unfold bP.val bP.cells;simp only;have wH:=af ((hJ.out.nil' hO3).nil' ((ai.refl [] w3).alloc (.cells #[.string x1,.bool x2,.int .u64 x3,.int .u64 x4,.int .u32 x5,.bool x6,.bool x7,.bool x8,.slice y1 y2 y3,.slice y4 y5 y6,.int .i64 x9,.int .u64 x10,.string pz,.slice y7 y8 y9,.slice wK wL wM] 109)));have Xp:=heap_alloc_new w3 (.cells #[.string x1,.bool x2,.int .u64 x3,.int .u64 x4,.int .u32 x5,.bool x6,.bool x7,.bool x8,.slice y1 y2 y3,.slice y4 y5 y6,.int .i64 x9,.int .u64 x10,.string pz,.slice y7 y8 y9,.slice wK wL wM] 109);clear cO hJ hO3 hc1;go_upto_region 9 with(fail)
    generalize(w3.alloc (.cells #[.string x1,.bool x2,.int .u64 x3,.int .u64 x4,.int .u32 x5,.bool x6,.bool x7,.bool x8,.slice y1 y2 y3,.slice y4 y5 y6,.int .i64 x9,.int .u64 x10,.string pz,.slice y7 y8 y9,.slice wK wL wM] 109))=w4 at*;generalize w3.heap.size=qb at*;have hD:=wH.out.nil' ((ai.refl [] w4).drew);have hA:=wH.out.nil' (((ai.refl [] w4).alloc (.cells #[.string x1,.bool x2,.int .u64 x3,.int .u64 x4,.int .u32 x5,.bool x6,.bool x7,.bool x8,.slice y1 y2 y3,.slice y4 y5 y6,.int .i64 x9,.int .u64 x10,.string pz,.slice y7 y8 y9,.slice wK wL wM] 109)).drew);obtain⟨n0,_⟩:=hD.cell;obtain⟨n1,_⟩:=hA.cell;obtain⟨a0,a1,a2,a3,a4,a5,a6,a7,a8,a9,Ii,Ij,a12,a13,a14⟩:=IZ ((ai.refl [] w4).drew.heap Xp (by simp));obtain⟨e0,e1,e2,e3,e4,e5,e6,e7,e8,e9,e10,e11,e12,e13,e14⟩:=IZ ((((ai.refl [] w4).alloc (.cells #[.string x1,.bool x2,.int .u64 x3,.int .u64 x4,.int .u32 x5,.bool x6,.bool x7,.bool x8,.slice y1 y2 y3,.slice y4 y5 y6,.int .i64 x9,.int .u64 x10,.string pz,.slice y7 y8 y9,.slice wK wL wM] 109)).drew).heap Xp (by simp));have mX:=af ((aA.new (enc:=bP.cells) (T:=109) w4 ⟨x1,x2,x3,x4,x5,x6,x7,x8,⟨y1,y2,y3⟩,⟨y4,y5,y6⟩,x9,x10,pz,⟨y7,y8,y9⟩,⟨wK,wL,wM⟩⟩ 1).nil' ((ai.refl [] _).drew));replace hA:=af hA;simp only[bP.cells]at mX;clear hD wH;go_region_law((go_loud(refine fu rfl (.tmp 50) (.tmp 52) (by rfl) Jd (jy _) (by rfl) hA.out.bare (by rfl) mX.out hl1.out hl2.out ?_);intro vv w5 hS5 hqq hg5 gW;obtain⟨sa5,sc5,rfl⟩:=hS5.sl;rw[hl3.out]at hS5 hg5⊢;obtain⟨⟨kC,f5⟩,lV⟩:=hA.out.add (hA.out.up hS5 hg5) gW;replace lV:=af lV;clear hS5 hg5 gW hqq))
    all_goals
     clear a0 a1 a2 a3 a4 a5 a6 a7 a8 a9 Ii Ij a12 a13 a14 e0 e1 e2 e3 e4 e5 e6 e7 e8 e9 e10 e11 e12 e13 e14 n0 n1 kC f5 mX hA hl1 hl2 hl3 Xp;go_wp2_with fail
     go_roundg(M.length-(k+1))
     case measure=>omega
     case rel=>exact⟨k+1,_,L++[_],by omega,rfl,by simp,lV.out,by simp[hLk.out],hg.out⟩
  ·have k1: ¬(k:Int)<M.length:=by omega
   rw[List.take_of_length_le (by omega)]at hgood;replace hok:=hok.out;rw[hgood,show decide (M.length<=64)=true by simpa using UI.out,show decide (N.length<=32)=true by simpa using hn32.out]at hok;simp only[Bool.true_and]at hok;change Hid _ at hok;generalize L.length=nT at*;obtain⟨e6,_⟩:=hJ.cell' 6 (u:=.slice na N.length nc) rfl;have QO:=aj hJ.row;have vE:iT 307 XK 5 wr wr b #[.string p.ver,.string p.ref,.bool p.df,.slice none 0 0,.slice va nT vc,.slice ma M.length mc,.slice na N.length nc] 551 3 (.slice none 0 0) ([]:List GI):=⟨ai.refl _ _,hJ.row,QO,by simp,Sl.nil _ _ _⟩;have hWr:=af hJ.own;change Hid _ at vE;clear hJ0 hJ hgood hLk hM UI ZQ hmb;generalize wr=wq at*;go_wp2_with fail
   clear e6;go_loopg[63] N.length (fun gg s63 wr=> ∃(k:Nat) (v:Value) (L:List GI),k<=N.length/\gg=N.length-k/\s63=.int .i64 k/\Aside (iT 307 XK 5 wq wr b #[.string p.ver,.string p.ref,.bool p.df,.slice none 0 0,.slice va nT vc,.slice ma M.length mc,.slice na N.length nc] 551 3 v L/\L.length=k/\(N.take k).all (fun s=>vV (ak s))=true))
   case atStart=>exact⟨0,_,[],by omega,by omega,rfl,vE.out,rfl,by simp⟩
   case round=>
    obtain⟨j,v,L2,hj,rfl,rfl,hJ,hLj,hgood⟩:=hrel;have j0:(0:Int)<=j:=by omega
    obtain⟨ua,uc,rfl⟩:=hJ.r.sl;by_cases hlt2:j<N.length
    ·have j1:(j:Int)<N.length:=by omega
     have hwj:IntKind.i64.wrap ((j:Int)+1)=(j:Int)+1:=IntWalk.i64_in _ (by have:=hn32.out;omega);obtain⟨b1,o1,rfl,hc1⟩:=(hRn.out.own (hWr.out.trans hJ.own) (fun g hg=>by simpa using hnb.out g hg)).strAt hlt2;have hs:=hN.out N[j] (List.getElem_mem hlt2);have hnext:vV (ak N[j])=true->(N.take (j+1)).all (fun s=>vV (ak s))=true:=fun hh=>by
      rw[List.take_succ_eq_append_getElem hlt2,List.all_append,hgood];simp[hh]
     have hbad:vV (ak N[j])=false->ok=false:=fun hh=>by
      rw[<-hok.out,List.all_eq_false];exact⟨N[j],List.getElem_mem hlt2,by simp[hh]⟩
     generalize N[j]=s at*;have vU:=(ai.refl [] wr).alloc (.cells #[.string ⟨#[]⟩,.int .u32 0,.int .i64 0,.int .u64 0,.string ⟨#[]⟩,.slice none 0 0] 566);have cO:=GN wr _ wr.heap.size ⟨⟨#[]⟩,0,PV.zero⟩ s deep ⟨vU,heap_alloc_new wr (.cells #[.string ⟨#[]⟩,.int .u32 0,.int .i64 0,.int .u64 0,.string ⟨#[]⟩,.slice none 0 0] 566),Nat.le_refl _,Sl.nil _ _ _,fun g hg=>by cases hg⟩ hs (hK'.out wr (hWr.out.trans hJ.own));have ace:L2.length<=31:=by have:=hn32.out;omega
     have hl1:=af (show(L2.length+1)*56<=140737488355328 by omega);have hl2:=af (show L2.length+1<=maxLen by unfold maxLen;omega);have hl3:=af (show∀x:GI,(L2++[x]).length=L2.length+1 by simp);change Hid _ at hLj;replace hJ:=af hJ;clear ace hgood hs vE vU;cases hr:vV (ak s)with
     |false=>
      rw[hr]at cO;have aF:=af (hbad hr);replace cO:=af cO;clear hnext hbad hr;go_wp2_with fail
      refine cO.out.mono ?_;rintro e w3 ⟨⟨ec,ay,rfl⟩,hO3⟩;have q:(ec !=0)=true:=by simpa using ay
      have Xo:=af (hW.out _ ((hWr.out.trans hJ.out.own).trans hO3.nil));change Hid _ at ay;clear cO hJ hO3;go_wp2_with fail
      go_ret
      exact uZ aF.out ay.out Xo.out
     |true=>
      rw[hr]at cO;have hg:=af (hnext hr);replace cO:=af cO;clear hnext hbad hr;go_wp2_with fail
      refine cO.out.mono ?_;rintro e w4 ⟨rfl,⟨pn,pt,pk,pm,ps⟩,rv,L3,hP4⟩;have wH:=af (hJ.out.nil' hP4.own);have hpr:=hP4.row;clear cO hJ hc1;go_upto_region 18 with(fail)
      generalize wr.heap.size=qb at*;have hD:=wH.out.nil' ((ai.refl [] w4).drew);have hA:=wH.out.nil' (((ai.refl [] w4).alloc (.cells #[.string pn,.int .u32 pt,.int .i64 pk,.int .u64 pm,.string ps] 307)).drew);obtain⟨n0,_⟩:=hD.cell;obtain⟨n1,_⟩:=hA.cell;obtain⟨a0,a1,a2,a3,a4,a5⟩:=U7 ((ai.refl [] w4).drew.heap hpr (by simp));obtain⟨e0,e1,e2,e3,e4,e5⟩:=U7 ((((ai.refl [] w4).alloc (.cells #[.string pn,.int .u32 pt,.int .i64 pk,.int .u64 pm,.string ps] 307)).drew).heap hpr (by simp));have mX:=af ((aA.new (enc:=XK) (T:=307) w4 ⟨pn,pt,pk,pm,ps⟩ 1).nil' ((ai.refl [] _).drew));replace hA:=af hA;simp only[XK]at mX;clear hD wH hP4 hpr a5 e5;go_region_law((go_loud(refine fu rfl (.tmp 82) (.tmp 87) (by rfl) VW (jy _) (by rfl) hA.out.bare (by rfl) mX.out hl1.out hl2.out ?_);intro vv w5 hS5 hqq hg5 gW;obtain⟨sa5,sc5,rfl⟩:=hS5.sl;rw[hl3.out]at hS5 hg5⊢;obtain⟨⟨kC,f5⟩,lV⟩:=hA.out.add (hA.out.up hS5 hg5) gW;replace lV:=af lV;clear hS5 hg5 gW hqq))
      all_goals
       clear a0 a1 a2 a3 a4 e0 e1 e2 e3 e4 n0 n1 kC f5 mX hA hl1 hl2 hl3;go_wp2_with fail
       go_roundg(N.length-(j+1))
       case measure=>omega
       case rel=>exact⟨j+1,_,L2++[_],by omega,rfl,by simp,lV.out,by simp[hLj.out],hg.out⟩
    ·have j1: ¬(j:Int)<N.length:=by omega
     rw[List.take_of_length_le (by omega)]at hgood;replace hok:=hok.out;rw[hgood]at hok;have jd:=af hok.symm;have Xo:=af (hW.out _ (hWr.out.trans hJ.own));have hrow:=hJ.row;generalize L2.length=nU at*;generalize N.length=nN at*;generalize M.length=nM at*;change Hid _ at hrow;clear vE hJ hgood hLj hok;go_wp2_with fail
     go_ret
     rw[jd.out];exact⟨rfl,⟨p,⟨_,_,_⟩,⟨_,_,_⟩,⟨_,_,_⟩,⟨_,_,_⟩,by simpa using hrow.out⟩,Xo.out⟩
theorem GV(g:List Int->Bool)(w:World)(b:Nat)(x:MT)(s1 s2 s3 s4:Sh)(deep:Int)(h:vY w b x s1 s2 s3 s4)(ht:x.told=true)(hm:x.meta'.size<=4096)(hp:x.props.size<=4096)(hs:x.big.size<=4096)(hK:aN w)(hd:0<=deep/\deep<=100)(hbk:5≠b)(IH:D8 g (deep+1)):
  Calls Tryz.prog 380 #[.pointer (some ⟨b,0,none⟩),.int .i64 deep] w (yu (AO (ak x.meta')&&(o8 8 (ak x.props)&&yY g x)) w b x):=by
 obtain⟨c16,_⟩:=h.cell 16 (u:=.bool x.told) rfl;obtain⟨IZ,_⟩:=h.cell 15 (u:=.string x.meta') rfl;rw[ht]at c16;obtain⟨w1,c,hcv,aH,cM⟩:=PS x.meta' w hm;have cV:=fun W t1 t2 (hW:vY W b x t1 t2 s3 s4) (hKW:aN W)=>Ea g W b x t1 t2 s3 s4 deep hW hs hKW hd IH
 have hKo:=fun W' (ho:ai [b] w W')=>hK.own' ho (by simpa using hbk)
 have Ui:(if x.m.v.k=8 then yT (ak x.big)else if x.m.v.k=9 then g (ak x.big)else true)=yY g x:=rfl;rw[Ui]at cV;generalize yY g x=vo at*;obtain⟨mo,hmo⟩: ∃mo,AO (ak x.meta')=mo:=⟨_,rfl⟩;rw[hmo]at cM⊢;change Hid _ at cV hKo;replace cM:=af cM;replace h:=af h;clear aH ht IH hd Ui hK hmo;go_enter Tryz.func380,Tryz.ntmps380
 go_wp2_with fail
 refine cM.out.mono ?_;intro e w2 hpm;clear hcv cM;cases mo with
 |false=>
  obtain⟨⟨⟨m0,m1,m2,m3,m4,m5,m6,m7⟩,ec,ay,rfl⟩,hO⟩:=hpm;unfold XJ;simp only;have o6:=af ((hO.alloc (.cells #[.bool m0,.string m1,.int .u64 m2,.int .u64 m3,.string m4,.string m5,.string m6,.string m7] 236)).nil (S:=[b]));have q:(ec !=0)=true:=by simpa using ay
  change Hid _ at ay;clear hO h cV;go_wp2_with fail
  go_ret
  exact⟨⟨ec,ay.out,rfl⟩,o6.out⟩
 |true=>
  obtain⟨⟨⟨m0,m1,m2,m3,m4,m5,m6,m7⟩,rfl⟩,gV⟩:=hpm;unfold XJ;simp only;have ZR:=h.out.own gV (by simp);have QO:=aj ZR;have hB:=(ai.refl [] w2).alloc (.cells #[.bool m0,.string m1,.int .u64 m2,.int .u64 m3,.string m4,.string m5,.string m6,.string m7] 236);obtain⟨d0,d1,d2,d3,d4,d5,d6,d7⟩:=c8 (heap_alloc_new w2 (.cells #[.bool m0,.string m1,.int .u64 m2,.int .u64 m3,.string m4,.string m5,.string m6,.string m7] 236));obtain⟨e8,z8'⟩:=ZR.cell 8 (u:=.slice s1.a s1.n s1.c) rfl;obtain⟨f8,y8'⟩:=(ZR.own hB (by simp)).cell 8 (u:=.slice s1.a s1.n s1.c) rfl;obtain⟨hEm,ZT⟩:=ZR.set (t1:=⟨some ⟨w2.heap.size+1,0,none⟩,1,1⟩) (t2:=s2) (t3:=s3) (t4:=s4) 8 (.slice (some ⟨w2.heap.size+1,0,none⟩) 1 1) rfl;have iF:=(hEm.own ((ai.refl [] _).alloc (.cells #[.bool m0,.string m1,.int .u64 m2,.int .u64 m3,.string m4,.string m5,.string m6,.string m7] 236)) (by simp)).own ((ai.refl [] _).alloc (.cells #[.bool m0,.string m1,.int .u64 m2,.int .u64 m3,.string m4,.string m5,.string m6,.string m7] 236)) (by simp);have aB:=((((gV.nil (S:=[b])).trans ZT).alloc (.cells #[.bool m0,.string m1,.int .u64 m2,.int .u64 m3,.string m4,.string m5,.string m6,.string m7] 236)).alloc (.cells #[.bool m0,.string m1,.int .u64 m2,.int .u64 m3,.string m4,.string m5,.string m6,.string m7] 236));clear hB hEm ZT ZR h gV;go_upto_region 7 with(fail)
  generalize(((w2.setCell ⟨b,8,none⟩ (.slice (some ⟨w2.heap.size+1,0,none⟩) 1 1)).alloc (.cells #[.bool m0,.string m1,.int .u64 m2,.int .u64 m3,.string m4,.string m5,.string m6,.string m7] 236)).alloc (.cells #[.bool m0,.string m1,.int .u64 m2,.int .u64 m3,.string m4,.string m5,.string m6,.string m7] 236))=w5 at*;generalize(⟨some ⟨w2.heap.size+1,0,none⟩,1,1⟩:Sh)=sm at*;obtain⟨c17,_⟩:=iF.cell 17 (u:=.string x.props) rfl;obtain⟨w8,c3,hcv,hO3,cP⟩:=I5 x.props w5 hp (hKo.out _ aB);replace cP:=af cP;generalize o8 8 (ak x.props)=po at*;replace iF:=af iF;replace aB:=af aB;clear hO3 d0 d1 d2 d3 d4 d5 d6 d7 e8 z8' f8 y8' QO;go_wp2_with fail
  refine cP.out.mono ?_;intro e w6 hp6;clear hcv cP;cases po with
  |false=>
   obtain⟨⟨ec,ay,rfl⟩,hO⟩:=hp6;have h2:=iF.out.own hO (by simp);obtain⟨e9,z9⟩:=h2.cell 9 (u:=.slice s2.a s2.n s2.c) rfl;have o6:=af ((aB.out.trans (hO.nil (S:=[b]))).setCell (p:=⟨b,9,none⟩) (.inl (by simp)) (.slice none 0 0));have q:(ec !=0)=true:=by simpa using ay
   change Hid _ at ay;clear h2 hO iF cV;go_wp2_with fail
   go_ret
   exact⟨⟨ec,ay.out,rfl⟩,o6.out⟩
  |true=>
   obtain⟨⟨a2,n2,k2,rfl⟩,hO⟩:=hp6;have h2:=iF.out.own hO (by simp);obtain⟨e9,z9⟩:=h2.cell 9 (u:=.slice s2.a s2.n s2.c) rfl;obtain⟨hE,iW⟩:=h2.set (t1:=sm) (t2:=⟨a2,n2,k2⟩) (t3:=s3) (t4:=s4) 9 (.slice a2 n2 k2) rfl;have hK2:aN (w6.setCell ⟨b,9,none⟩ (.slice a2 n2 k2)):=hKo.out _ ((aB.out.trans (hO.nil (S:=[b]))).trans iW);have Xe:=af (cV.out _ sm ⟨a2,n2,k2⟩ hE hK2);have o6:=af ((aB.out.trans (hO.nil (S:=[b]))).trans iW);clear h2 hO iF cV hE iW hK2;go_wp2_with fail
   refine Xe.out.mono ?_;intro e w7 hp3;cases vo with
   |true=>
    obtain⟨rfl,hx,hO3⟩:=hp3;change Hid _ at hx;replace hO3:=af (o6.out.trans hO3);go_wp2_with fail
    go_ret
    obtain⟨t3,t4,hx⟩:=hx.out;exact⟨rfl,⟨_,_,_,_,hx⟩,hO3.out⟩
   |false=>
    obtain⟨⟨ec,ay,rfl⟩,hO3⟩:=hp3;change Hid _ at ay;replace hO3:=af (o6.out.trans hO3);go_wp2_with fail
    go_ret
    exact⟨⟨ec,ay.out,rfl⟩,hO3.out⟩
theorem Lx(g:List Int->Bool)(w:World)(b:Nat)(x:MT)(s1 s2 s3 s4:Sh)(deep:Int)(h:vY w b x s1 s2 s3 s4)(hm:x.meta'.size<=4096)(hp:x.props.size<=4096)(hs:x.big.size<=4096)(hK:aN w)(hd:0<=deep/\deep<=100)(hbk:5≠b)(IH:D8 g (deep+1)):
  Calls Tryz.prog 380 #[.pointer (some ⟨b,0,none⟩),.int .i64 deep] w (yu ((!x.told||AO (ak x.meta'))&&o8 8 (ak x.props)&&yY g x) w b x):=by
 cases ht:x.told with
 |false=>
  have:=Bv g w b x s1 s2 s3 s4 deep h ht hp hs hK hd hbk IH;simpa using this
 |true=>
  have:=GV g w b x s1 s2 s3 s4 deep h ht hm hp hs hK hd hbk IH;simpa[Bool.and_assoc]using this
end Go.Proofs.YtedcakchekaemaaGreatDoor
namespace Go.Proofs.YtedcakchekaemaaGreatDoor
open Go.RowKit
theorem rC{P:Program}{kt:TypeId}{κ:Type}[BEq κ]{enc:κ->Value}(heq: ∀(w:World) a b,(Op.equal kt (enc a) (enc b)).run P w=.ok (a==b) w)(w:World)(k:κ):
  ∀(es:List MapEntry) (l:List (κ×Value)) (i:Nat),es.map (fun e=>(e.key,e.val))=l.map (fun p=>(enc p.1,p.2))->
   (Instr.findAsking kt (enc k) es i).run P w=.ok ((l.findIdx? (fun p=>k==p.1)).bind fun j=>(l[j]?).map fun p=>(i+j,p.2)) w
 | [],l,i,h=>by
   cases l with
   |nil=>simp[Instr.findAsking]
   |cons p r=>simp at h
 |e::es,l,i,h=>by
  cases l with
  |nil=>simp at h
  |cons p r=>
   simp only[List.map_cons,List.cons.injEq,Prod.mk.injEq]at h;obtain⟨⟨h1,h2⟩,h3⟩:=h;simp only[Instr.findAsking,h1,Sem.run_bind,heq,Result.andThen_ok];cases hkp:(k==p.1)
   ·have ih:=rC heq w k es r (i+1) h3
    simp only[List.findIdx?_cons,hkp];simp[ih];cases hf:r.findIdx? (fun p=>k==p.1)with
    |none=>simp
    |some j=>simp[Nat.add_assoc,Nat.add_comm 1 j]
   ·simp[List.findIdx?_cons,hkp,h2]
theorem yO{P:Program}{kt:TypeId}{κ:Type}[BEq κ]{enc:κ->Value}(hwide:(match P.underlying kt with|some (.array _ _)|some (.struct _)=>true|_=>false)=true)
  (heq: ∀(w:World) a b,(Op.equal kt (enc a) (enc b)).run P w=.ok (a==b) w)(w:World)(k:κ)(l:List (κ×Value))(es:List MapEntry)
  (h:es.map (fun e=>(e.key,e.val))=l.map (fun p=>(enc p.1,p.2))):(Instr.findKey kt (enc k) es).run P w=.ok ((l.findIdx? (fun p=>k==p.1)).bind fun j=>(l[j]?).map fun p=>(j,p.2)) w:=by
 have:=rC heq w k es l 0 h;simp only[Nat.zero_add]at this;rw[run_findKey_eq w hwide];exact this
end Go.Proofs.YtedcakchekaemaaGreatDoor
namespace Go.Proofs.YtedcakchekaemaaGreatDoor
open Go.RowKit
variable [Kd]
theorem SC(n:Nat)(a:Addr)(w:World):(method (n+1) 376 (.pointer (some a)) "crier/metric.take").run Tryz.prog w=.ok (381,.pointer (some a)) w:=by kernel_rfl
theorem SE(n:Nat)(a:Addr)(w:World):(method (n+1) 376 (.pointer (some a)) "crier/metric.done").run Tryz.prog w=.ok (380,.pointer (some a)) w:=by kernel_rfl
theorem PX(n:Nat)(a:Addr)(w:World):(method (n+1) 549 (.pointer (some a)) "crier/metric.take").run Tryz.prog w=.ok (441,.pointer (some a)) w:=by kernel_rfl
theorem PY(n:Nat)(a:Addr)(w:World):(method (n+1) 549 (.pointer (some a)) "crier/metric.done").run Tryz.prog w=.ok (440,.pointer (some a)) w:=by kernel_rfl
structure MT.Ok (x:MT):Prop where
 me:x.meta'.size<=4096
 pr:x.props.size<=4096
 big:x.big.size<=4096
 al0:0<=x.m.al
 al1:x.m.al<=18446744073709551615
 ty0:0<=x.m.ty
 ty1:x.m.ty<=4294967295
 k0:0<=x.m.v.k
 k1:x.m.v.k<=9
 n0:0<=x.m.v.n
 n1:x.m.v.n<=18446744073709551615
theorem MT.Ok.zero:MT.zero.Ok:=⟨by decide,by decide,by decide,by decide,by decide,by decide,by decide,by decide,by decide,by decide,by decide⟩
theorem PZ{base:Int}{raw:Bool}{v y:PV}{f:bG}(hv:0<=v.k/\v.k<=9/\0<=v.n/\v.n<=18446744073709551615)(hf:f.Ok)(h:iO base raw v f=some y):0<=y.k/\y.k<=9/\0<=y.n/\y.n<=18446744073709551615:=by
 have h0:=hf.v0;have h1:=hf.v1;have hk:0<=iq f.num base raw/\iq f.num base raw<=9:=by unfold iq;split<;>omega
 unfold iO at h;split at h
 ·cases h;exact hv
 ·split at h
  ·cases h
  ·split at h
   ·cases h
   ·cases h;exact⟨hk.1,hk.2,h0,h1⟩
theorem P5{x y:MT}{f:bG}(hx:x.Ok)(hf:f.Ok)(h:bn x f=some y):y.Ok:=by
 obtain⟨a1,a2,a3,a4,a5,a6,a7,a8,a9,Ii,Ij⟩:=hx;have h0:=hf.v0;have h1:=hf.v1;have h2:=hf.t;unfold bn at h;by_cases c1:f.num=1
 ·rw[if_pos c1]at h
  by_cases d:f.kind=2
  ·rw[if_pos d]at h
   cases h;exact⟨a1,a2,a3,a4,a5,a6,a7,a8,a9,Ii,Ij⟩
  ·rw[if_neg d]at h
   cases h
 rw[if_neg c1]at h;by_cases c2:f.num=2
 ·rw[if_pos c2]at h
  by_cases d:f.kind=0
  ·rw[if_pos d]at h
   cases h;exact⟨a1,a2,a3,h0,h1,a6,a7,a8,a9,Ii,Ij⟩
  ·rw[if_neg d]at h
   cases h
 rw[if_neg c2]at h;by_cases c3:f.num=3
 ·rw[if_pos c3]at h
  by_cases d:f.kind=0
  ·rw[if_pos d]at h
   cases h;exact⟨a1,a2,a3,a4,a5,a6,a7,a8,a9,Ii,Ij⟩
  ·rw[if_neg d]at h
   cases h
 rw[if_neg c3]at h;by_cases c4:f.num=4
 ·rw[if_pos c4]at h
  by_cases d:f.kind=0/\f.val<=4294967295
  ·rw[if_pos d]at h
   cases h;exact⟨a1,a2,a3,a4,a5,h0,d.2,a8,a9,Ii,Ij⟩
  ·rw[if_neg d]at h
   cases h
 rw[if_neg c4]at h;by_cases c5:f.num=5
 ·rw[if_pos c5]at h
  by_cases d:f.kind=0/\f.val<=1
  ·rw[if_pos d]at h
   cases h;exact⟨a1,a2,a3,a4,a5,a6,a7,a8,a9,Ii,Ij⟩
  ·rw[if_neg d]at h
   cases h
 rw[if_neg c5]at h;by_cases c6:f.num=6
 ·rw[if_pos c6]at h
  by_cases d:f.kind=0/\f.val<=1
  ·rw[if_pos d]at h
   cases h;exact⟨a1,a2,a3,a4,a5,a6,a7,a8,a9,Ii,Ij⟩
  ·rw[if_neg d]at h
   cases h
 rw[if_neg c6]at h;by_cases c7:f.num=7
 ·rw[if_pos c7]at h
  by_cases d:f.kind=0/\f.val<=1
  ·rw[if_pos d]at h
   cases h;exact⟨a1,a2,a3,a4,a5,a6,a7,a8,a9,Ii,Ij⟩
  ·rw[if_neg d]at h
   cases h
 rw[if_neg c7]at h;by_cases c8:f.num=8
 ·rw[if_pos c8]at h
  by_cases d:f.kind=2
  ·rw[if_pos d]at h
   cases h;exact⟨h2,a2,a3,a4,a5,a6,a7,a8,a9,Ii,Ij⟩
  ·rw[if_neg d]at h
   cases h
 rw[if_neg c8]at h;by_cases c9:f.num=9
 ·rw[if_pos c9]at h
  by_cases d:f.kind=2
  ·rw[if_pos d]at h
   cases h;exact⟨a1,h2,a3,a4,a5,a6,a7,a8,a9,Ii,Ij⟩
  ·rw[if_neg d]at h
   cases h
 rw[if_neg c9]at h;by_cases c17:f.num=17
 ·rw[if_pos c17]at h
  by_cases d:f.kind=2
  ·rw[if_pos d]at h
   cases h;exact⟨a1,a2,h2,a4,a5,a6,a7,(show(0:Int)<=8 by decide),(show(8:Int)<=9 by decide),(show(0:Int)<=0 by decide),(show(0:Int)<=18446744073709551615 by decide)⟩
  ·rw[if_neg d]at h
   cases h
 rw[if_neg c17]at h;by_cases c18:f.num=18
 ·rw[if_pos c18]at h
  by_cases d:f.kind=2
  ·rw[if_pos d]at h
   cases h;exact⟨a1,a2,h2,a4,a5,a6,a7,(show(0:Int)<=9 by decide),(show(9:Int)<=9 by decide),(show(0:Int)<=0 by decide),(show(0:Int)<=18446744073709551615 by decide)⟩
  ·rw[if_neg d]at h
   cases h
 rw[if_neg c18]at h;obtain⟨v,hv,rfl⟩:=Option.map_eq_some_iff.1 h;by_cases d:v.k=0
 ·rw[if_pos d]
  exact⟨a1,a2,a3,a4,a5,a6,a7,a8,a9,Ii,Ij⟩
 ·rw[if_neg d]
  obtain⟨q1,q2,q3,q4⟩:=PZ (v:=PV.zero) (by decide) hf hv;exact⟨a1,a2,a3,a4,a5,a6,a7,q1,q2,q3,q4⟩
def U8(g:List Int->Bool)(B:List Int):Option MT:=match sj B with
 |none=>none
 |some l=>(l.foldlM bn MT.zero).bind fun x=>if((!x.told||AO (ak x.meta'))&&o8 8 (ak x.props)&&yY g x)=true then some x else none
def Bz(r:Option MT)(W0:World)(b:Nat)(e:Ending)(w':World):Prop:=
 match r with
 |some x=>e=.returned (.int .i64 0)/\(∃t1 t2 t3 t4,vY w' b x t1 t2 t3 t4)/\x.Ok/\ai [] W0 w'
 |none=>(∃ec:Int,ec≠0/\e=.returned (.int .i64 ec))/\ai [] W0 w'
theorem BA{r:Option MT}{W0 w':World}{b:Nat}{ec:Int}(h:r=none)(ay:ec≠0)(ho:ai [] W0 w'):Bz r W0 b (.returned (.int .i64 ec)) w':=by subst h;exact⟨⟨ec,ay,rfl⟩,ho⟩
theorem VX{r:Option MT}{W0 w':World}{b:Nat}{x:MT}(h:r=some x)(hx: ∃t1 t2 t3 t4,vY w' b x t1 t2 t3 t4)(hk:x.Ok)(ho:ai [] W0 w'):Bz r W0 b (.returned (.int .i64 0)) w':=by subst h;exact⟨rfl,hx,hk,ho⟩
theorem LD(g:List Int->Bool)(W0 w:World)(b:Nat)(s:ByteArray)(deep:Int)(h:bH w b MT.zero)(hb:W0.heap.size<=b)(ho:ai [] W0 w)(hs:s.size<=4096)(hK:aN W0)(hd:0<=deep/\deep<=100)(IH:D8 g (deep+1)):
  Calls Tryz.prog 257 #[.iface 376 (.pointer (some ⟨b,0,none⟩)),.string s,.int .i64 deep] w (Bz (U8 g (ak s)) W0 b):=by
 obtain⟨ok,hok⟩: ∃ok,U8 g (ak s)=ok:=⟨_,rfl⟩;rw[hok];unfold U8 at hok;obtain⟨w1,c,hcv,aH,cW⟩:=qN s w (by omega);have mT:=SC;have mD:=SE;have hbw:=aj h;have hbk:5≠b:=by
  have:=block_lt_of_cell (hK 0 (by omega));simp only at this;omega
 have hW:Hid (∀W,ai [b] w W->ai [] W0 W):=af fun W h=>ho.trans' h (fun x hx=>.inr (by simp at hx;subst hx;exact hb))
 have hK':Hid (∀W,ai [b] w W->aN W):=af fun W h=>hK.own (hW.out W h)
 have cDn:=af fun W x (hx:bH W b x) (hxk:x.Ok) (hKW:aN W)=>Lx g W b x Sh.nil Sh.nil Sh.nil Sh.nil deep hx.e hxk.me hxk.pr hxk.big hKW hd hbk IH
 change Hid _ at IH;replace cW:=af cW;replace h:=af h;clear hK aH ho hb hd hbk;go_enter Tryz.func257,Tryz.ntmps257
 go_wp2_with fail
 refine cW.out.mono ?_;intro e w2 hp;clear cW hcv;cases hw:sj (ak s)with
 |none=>
  rw[hw]at hp hok;simp only at hok;obtain⟨⟨ec,ay,rfl⟩,hO2⟩:=hp;have aF:=af hok.symm;have q:(ec !=0)=true:=by simpa using ay
  change Hid _ at ay;replace hO2:=af (hW.out _ hO2.nil);clear hw hok;go_wp2_with fail
  go_ret
  exact BA aF.out ay.out hO2.out
 |some l=>
  rw[hw]at hp hok;simp only at hok;obtain⟨⟨aT,rfl,hS⟩,hO2⟩:=hp;obtain⟨hll,hf⟩:=mG (bN s) hw;have hvb: ∀g,aT.ownBlock=some g->g<w2.heap.size/\g≠b:=fun g hg=>by have:=hS.block hg;exact⟨this.2,by omega⟩
  have sG:=af (hS.reads dX);obtain⟨va,vc,rfl⟩:=hS.sl;have vE:=af (h.out.own hO2 (by simp));have dw:=af hO2;change Hid _ at hf hvb;obtain⟨R,hR⟩: ∃R,l.foldlM bn MT.zero=R:=⟨_,rfl⟩;rw[hR]at hok;change Hid _ at hR hok;clear hw hS hO2 h;go_wp2_with fail
  go_loopg[23] l.length (fun gg ZO wr=> ∃(k:Nat) (x:MT),k<=l.length/\gg=l.length-k/\ZO=.int .i64 k/\Aside (bH wr b x/\ai [b] w2 wr/\x.Ok/\(l.drop k).foldlM bn x=R))
  case atStart=>exact⟨0,_,by omega,by omega,rfl,vE.out,ai.refl _ _,MT.Ok.zero,by simpa using hR.out⟩
  case round=>
   obtain⟨k,x,hk,rfl,rfl,hP,hOb,hxk,qB⟩:=hrel;have k0:(0:Int)<=k:=by omega
   have MS:=dw.out.nil.trans hOb;by_cases hlt:k<l.length
   ·have k1:(k:Int)<l.length:=by omega
    have hwk:IntKind.i64.wrap ((k:Int)+1)=(k:Int)+1:=IntWalk.i64_in _ (by omega);obtain⟨b1,o1,rfl,c0,c1,c2,c3⟩:=(sG.out.own hOb (fun g hg=>by have:=(hvb.out g hg).2;simpa using this)).fld hlt;have hF:=hf.out l[k] (List.getElem_mem hlt);rw[List.drop_eq_getElem_cons hlt,List.foldlM_cons]at qB;generalize l[k]=f at*;have hA:=(ai.refl [] wr).alloc (.cells (fL f).toArray 100);have cT:=Ku b x f _ (hP.own hA (by simp)) hF (hK'.out _ (MS.trans hA.nil));have hst:=fun y=>P5 (y:=y) hxk hF
    have zk:=af (hOb.trans hA.nil);have ae3:=af (hW.out _ (MS.trans hA.nil));obtain⟨⟨d0,d1,d2,d3⟩,-⟩:=q4 (heap_alloc_new wr (.cells (fL f).toArray 100));clear hA MS hP hxk hOb hF;cases hms:bn x f with
    |none=>
     rw[hms]at cT qB;have aF:ok=none:=by
      have h1:R=none:=qB.symm;have h2:=hok.out;rw[h1]at h2;exact h2.symm
     change Hid _ at aF;obtain⟨f1,f2,f3,f4⟩:=f;unfold fL at*;simp only at*;unfold bF at cT;replace cT:=af cT;clear hst qB hms vE;go_wp2_with fail
     refine cT.out.mono ?_;rintro e w5 ⟨⟨ec,ay,rfl⟩,aB⟩;have q:(ec !=0)=true:=by simpa using ay
     change Hid _ at ay;replace aB:=af (hW.out _ ((dw.out.nil.trans zk.out).trans aB));clear cT;go_wp2_with fail
     go_ret
     exact BA aF.out ay.out aB.out
    |some y=>
     rw[hms]at cT qB;have hyk:=af (hst y hms);replace qB:=af (show(l.drop (k+1)).foldlM bn y=R from qB);obtain⟨f1,f2,f3,f4⟩:=f;unfold fL at*;simp only at*;unfold bF at cT;replace cT:=af cT;clear hst hms vE;go_wp2_with fail
     refine cT.out.mono ?_;rintro e w5 ⟨rfl,hP',jk⟩;have QT:=af (zk.out.trans jk);change Hid _ at hP';clear jk d0 d1 d2 d3 cT;go_wp2_with fail
     go_roundg(l.length-(k+1))
     case measure=>omega
     case rel=>exact⟨k+1,_,by omega,rfl,by simp,hP'.out,QT.out,hyk.out,qB.out⟩
   ·have k1: ¬(k:Int)<l.length:=by omega
    rw[List.drop_eq_nil_of_le (by omega)]at qB;have hR2:some x=R:=qB;have cD:=cDn.out wr x hP hxk (hK'.out _ MS);have hok2:=hok.out;rw[<-hR2]at hok2;simp only[Option.bind_some]at hok2;have eu:=af (fun W (h:ai [b] wr W)=>hW.out W (MS.trans h));change Hid _ at hxk;generalize((!x.told||AO (ak x.meta'))&&o8 8 (ak x.props)&&yY g x)=dn at*;unfold yu at cD;clear qB hR2 hP hOb MS hok hR vE;cases dn with
    |false=>
     have aF:=af (show ok=none from hok2.symm);replace cD:=af cD;clear hok2;go_wp2_with fail
     refine cD.out.mono ?_;rintro e w5 ⟨⟨ec,ay,rfl⟩,aB⟩;change Hid _ at ay;replace aB:=af (eu.out _ aB);go_wp2_with fail
     go_ret
     exact BA aF.out ay.out aB.out
    |true=>
     have jd:=af (show ok=some x from hok2.symm);replace cD:=af cD;clear hok2;go_wp2_with fail
     refine cD.out.mono ?_;rintro e w5 ⟨rfl,hx,aB⟩;change Hid _ at hx;replace aB:=af (eu.out _ aB);go_wp2_with fail
     go_ret
     exact VX jd.out hx.out hxk.out aB.out
end Go.Proofs.YtedcakchekaemaaGreatDoor
