import Derived.Test.YtedcakchekaemaaGreatDoorMn19
import Derived.Test.YtedcakchekaemaaGreatDoorMn18
import Derived.Test.YtedcakchekaemaaGreatDoorMn17
set_option maxRecDepth 100000
set_option maxHeartbeats 16000000
set_option linter.all false
namespace Go.Proofs.YtedcakchekaemaaGreatDoor
open Go.RowKit
def pG(w:World):Prop:= ∃m,w.cell? ⟨Tryz.laysContains_ren.g 1,0,none⟩=some (.int .i64 m)
theorem pG.own{w w':World}(h:pG w)(ho:ai [] w w'):pG w':=
 let⟨m,hm⟩:=h;⟨m,(ho.cell (block_lt_of_cell hm) (by simp)).trans hm⟩
def gX(s:ByteArray):Bool:=lZ s&& !(Lib.contains s.data.toList [47])
theorem Nk(s:ByteArray)(w:World)(hT:jG w)(hM:pG w):Calls Tryz.prog 89 #[.string s] w fun e w'=>e=.returned (.bool (gX s))/\ai [] w w':=by
 have cN:=af (BR s w hT);by_cases hn:lZ s=true
 ·have hs:s.size<=96:=by
   unfold lZ oq at hn;simp at hn;omega
  have cC:=af (fun W (hM:pG W)=>(Any.strings_Contains Tryz.laysContains s ⟨#[47]⟩ hM.choose W (by omega) hM.choose_spec));have e1:gX s= !(Lib.contains s.data.toList [47]):=by unfold gX;rw[hn];rfl
  rw[e1];rw[hn]at cN;clear e1 hn hs;go_enter Tryz.func89,Tryz.ntmps89
  go_wp2_with fail
  with_reducible refine cN.out.mono ?_
  rintro e w2 ⟨rfl,hO⟩;change Hid _ at hO;go_wp2_with fail
  refine(cC.out _ (by exact hM.own hO.out)).mono ?_;rintro e w3 ⟨rfl,rfl⟩;go_wp2_with fail
  go_ret
  exact⟨rfl,hO.out⟩
 ·have hn2:lZ s=false:=by simpa using hn
  have e1:gX s=false:=by unfold gX;rw[hn2];rfl
  rw[e1];rw[hn2]at cN;clear e1 hn hn2;go_enter Tryz.func89,Tryz.ntmps89
  go_wp2_with fail
  with_reducible refine cN.out.mono ?_
  rintro e w2 ⟨rfl,hO⟩;change Hid _ at hO;go_wp2_with fail
  go_ret
  exact⟨rfl,hO.out⟩
structure kH where
 k:Int
 g:ByteArray
 n:ByteArray
 d:ByteArray
def mY:ByteArray:=⟨#[115,112,66,118,49,46,48]⟩
def wV:ByteArray:=⟨#[83,84,65,84,69]⟩
def lI(s:kH):List ByteArray:=if s.k=9 then[mY,wV,s.n]else if 5<=s.k then[mY,s.g,fG s.k,s.n,s.d]else[mY,s.g,fG s.k,s.n]
def iY(s:kH):List ByteArray:=if s.k=9 then[s.n]else if 5<=s.k then[s.g,s.n,s.d]else[s.g,s.n]
def ER(w:World)(A F:List ByteArray)(e:Ending)(w':World):Prop:= ∃a b:Nat,e=.returned (.tuple #[.slice (some ⟨a,0,none⟩) A.length A.length,.slice (some ⟨b,0,none⟩) F.length F.length])/\aA l9 w' (.slice (some ⟨a,0,none⟩) A.length A.length) A/\aA l9 w' (.slice (some ⟨b,0,none⟩) F.length F.length) F/\ai [] w w'
theorem Rl(l:List ByteArray):aC l9 l=l.map Value.string:=by
 induction l with
 |nil=>rfl
 |cons x r ih=>unfold aC at*;rw[List.flatMap_cons,ih];rfl
theorem qG{W:World}{b:Nat}{A:List ByteArray}{T:TypeId}(h:W.heap[b]?=some (.cells (A.map Value.string).toArray T (0,0))):aA l9 W (.slice (some ⟨b,0,none⟩) A.length A.length) A:=by
 refine .inr ⟨b,0,A.length,rfl,fun j u hu=>?_⟩;rw[Rl]at hu;rw[cell_of_row _ _ _ _ _ _ h,Nat.zero_add];simpa using hu
theorem uF{w W:World}(hO:ai [] w W)(A F:List ByteArray)(T:TypeId){a b:Nat}(ha:a=W.heap.size)(hb:b=W.heap.size+1):
  ER w A F (.returned (.tuple #[.slice (some ⟨a,0,none⟩) A.length A.length,.slice (some ⟨b,0,none⟩) F.length F.length])) ((W.alloc (.cells (A.map Value.string).toArray T)).alloc (.cells (F.map Value.string).toArray T)).drew:=by
 subst ha hb;refine⟨_,_,rfl,qG (T:=T) ?_,qG (T:=T) (heap_alloc2_new _ _ _),((hO.alloc _).alloc _).drew⟩;exact((ai.refl [] (W.alloc (.cells (A.map Value.string).toArray T))).alloc (.cells (F.map Value.string).toArray T)).heap (heap_alloc_new W _) (by simp)
theorem uG{w W:World}(hO:ai [] w W)(A F:List ByteArray)(T:TypeId){a b:Nat}(hb:b=W.heap.size)(ha:a=W.heap.size+1):
  ER w A F (.returned (.tuple #[.slice (some ⟨a,0,none⟩) A.length A.length,.slice (some ⟨b,0,none⟩) F.length F.length])) ((W.alloc (.cells (F.map Value.string).toArray T)).alloc (.cells (A.map Value.string).toArray T)).drew:=by
 subst ha hb;refine⟨_,_,rfl,qG (T:=T) (heap_alloc2_new _ _ _),qG (T:=T) ?_,((hO.alloc _).alloc _).drew⟩;exact((ai.refl [] (W.alloc (.cells (F.map Value.string).toArray T))).alloc (.cells (A.map Value.string).toArray T)).heap (heap_alloc_new W _) (by simp)
theorem fC{w:World}{b:Nat}{x0 x1 x2 x3:Value}{T:TypeId}(h:w.heap[b]?=some (.cells #[x0,x1,x2,x3] T (0,0))):
  w.cell? ⟨b,0,none⟩=some x0/\w.cell? ⟨b,1,none⟩=some x1/\w.cell? ⟨b,2,none⟩=some x2/\w.cell? ⟨b,3,none⟩=some x3:=
 ⟨by rw[cell_of_row _ _ _ _ _ _ h];rfl,by rw[cell_of_row _ _ _ _ _ _ h];rfl,by rw[cell_of_row _ _ _ _ _ _ h];rfl,by rw[cell_of_row _ _ _ _ _ _ h];rfl⟩
theorem JE(s:kH)(w:World)(hW:dz w):Calls Tryz.prog 88 #[.agg #[.int .i64 s.k,.string s.g,.string s.n,.string s.d]] w (ER w (lI s) (iY s)):=by
 obtain⟨k,g,n,d⟩:=s;have aH:ai [] w (w.alloc (.cells #[.int .i64 k,.string g,.string n,.string d] 76)):=(ai.refl _ _).alloc _;have hb:=heap_alloc_new w (.cells #[.int .i64 k,.string g,.string n,.string d] 76);have cW:=af (fun W=>zq k W);have cX:=af (fun W (h:dz W)=>EL k W h);by_cases h9:k=9
 ·have e1:lI ⟨k,g,n,d⟩=[mY,wV,n]:=by unfold lI;rw[if_pos h9]
  have e2:iY ⟨k,g,n,d⟩=[n]:=by unfold iY;rw[if_pos h9]
  have e3:gK k=3:=by unfold gK;rw[if_pos h9]
  rw[e1,e2];rw[e3]at cW;obtain⟨f0,f1,f2,f3⟩:=fC hb;change Hid _ at hb;clear h9 e1 e2 e3;go_enter Tryz.func88,Tryz.ntmps88
  go_wp2_with fail
  with_reducible refine(cW.out _).mono ?_
  rintro e w2 ⟨rfl,rfl⟩;go_wp2_with fail
  go_region_held3(fun W'=>W'.cell? ⟨w.heap.size,2,none⟩=some (.string n)) (go_keep) (fail)
  all_goals
   go_wp2_with fail
   go_ret2
   first
    |exact uF aH [mY,wV,n] [n] 9 (by simp) (by simp)
    |exact uG aH [mY,wV,n] [n] 9 (by simp) (by simp)
 ·have cY:=af (hW.own aH)
  have q9:(k==9)=false:=by simpa using h9
  by_cases h5:5<=k
  ·have e1:lI ⟨k,g,n,d⟩=[mY,g,fG k,n,d]:=by unfold lI;rw[if_neg h9,if_pos h5]
   have e2:iY ⟨k,g,n,d⟩=[g,n,d]:=by unfold iY;rw[if_neg h9,if_pos h5]
   have e3:gK k=5:=by unfold gK;rw[if_neg h9,if_pos h5]
   rw[e1,e2];rw[e3]at cW;obtain⟨f0,f1,f2,f3⟩:=fC hb;change Hid _ at hb;have cZ:=af (fun W (h:ai [] (w.alloc (.cells #[.int .i64 k,.string g,.string n,.string d] 76)) W)=>cX.out W (cY.out.own h));clear h9 e1 e2 e3 h5 q9;go_enter Tryz.func88,Tryz.ntmps88
   go_wp2_with fail
   with_reducible refine(cW.out _).mono ?_
   rintro e w2 ⟨rfl,rfl⟩;go_wp2_with fail
   go_region_held3(fun W'=>W'.cell? ⟨w.heap.size,0,none⟩=some (.int .i64 k)/\W'.cell? ⟨w.heap.size,1,none⟩=some (.string g)/\W'.cell? ⟨w.heap.size,2,none⟩=some (.string n)/\W'.cell? ⟨w.heap.size,3,none⟩=some (.string d)) (go_keep) ((go_at_call 157;((with_reducible refine(cX.out _ (by first|exact cY.out.own ((ai.refl [] _).drew)|exact cY.out.own (((ai.refl [] _).alloc _).drew))).mono ?_);rintro e w2 ⟨rfl,rfl⟩)))
   all_goals
    go_wp2_with fail
    go_ret2
    first
     |exact uF aH [mY,g,fG k,n,d] [g,n,d] 9 (by simp) (by simp)
     |exact uG aH [mY,g,fG k,n,d] [g,n,d] 9 (by simp) (by simp)
  ·have e1:lI ⟨k,g,n,d⟩=[mY,g,fG k,n]:=by unfold lI;rw[if_neg h9,if_neg h5]
   have e2:iY ⟨k,g,n,d⟩=[g,n]:=by unfold iY;rw[if_neg h9,if_neg h5]
   have e3:gK k=4:=by unfold gK;rw[if_neg h9,if_neg h5]
   rw[e1,e2];rw[e3]at cW;obtain⟨f0,f1,f2,f3⟩:=fC hb;change Hid _ at hb;have cZ:=af (fun W (h:ai [] (w.alloc (.cells #[.int .i64 k,.string g,.string n,.string d] 76)) W)=>cX.out W (cY.out.own h));clear h9 e1 e2 e3 h5 q9;go_enter Tryz.func88,Tryz.ntmps88
   go_wp2_with fail
   with_reducible refine(cW.out _).mono ?_
   rintro e w2 ⟨rfl,rfl⟩;go_wp2_with fail
   go_region_held3(fun W'=>W'.cell? ⟨w.heap.size,0,none⟩=some (.int .i64 k)/\W'.cell? ⟨w.heap.size,1,none⟩=some (.string g)/\W'.cell? ⟨w.heap.size,2,none⟩=some (.string n)) (go_keep) ((go_at_call 157;((with_reducible refine(cX.out _ (by first|exact cY.out.own ((ai.refl [] _).drew)|exact cY.out.own (((ai.refl [] _).alloc _).drew))).mono ?_);rintro e w2 ⟨rfl,rfl⟩)))
   all_goals
    go_wp2_with fail
    go_ret2
    first
     |exact uF aH [mY,g,fG k,n] [g,n] 9 (by simp) (by simp)
     |exact uG aH [mY,g,fG k,n] [g,n] 9 (by simp) (by simp)
end Go.Proofs.YtedcakchekaemaaGreatDoor
namespace Go.Proofs.YtedcakchekaemaaGreatDoor
open Go.RowKit
variable [Kd]
theorem IY(base:Int)(raw:Bool)(f:bG):MU base raw [f]=iO base raw PV.zero f:=by
 unfold MU;simp only[List.foldlM_cons,List.foldlM_nil];cases iO base raw PV.zero f<;>rfl
theorem zN{w:World}{b:Nat}{f:bG}(h:w.heap[b]?=some (.cells (fL f).toArray 100 (0,0)))(c:Nat):aA fL w (.slice (some ⟨b,0,none⟩) 1 c) [f]:=
 .inr ⟨b,0,c,rfl,fun j u hu=>by
  rw[Nat.zero_add,cell_of_row w b j _ _ _ h];simpa[aC]using hu⟩
theorem bF.start{t:Option MT}{w w1 w':World}{b:Nat}{e:Ending}(hA:ai [] w w1)(h:bF t w1 b e w'):bF t w b e w':=by
 cases t with
 |none=>
  obtain⟨h1,h2⟩:=h;exact⟨h1,hA.nil.trans h2⟩
 |some y=>
  obtain⟨h1,h2,h3⟩:=h;exact⟨h1,h2,hA.nil.trans h3⟩
theorem bH.set3{w:World}{b:Nat}{x:MT}(h:bH w b x)(y:PV):bH (((w.setCell ⟨b,10,none⟩ (.int .i64 y.k)).setCell ⟨b,11,none⟩ (.int .u64 y.n)).setCell ⟨b,12,none⟩ (.string y.s)) b {x with m:={x.m with v:=y}}/\
  ai [b] w (((w.setCell ⟨b,10,none⟩ (.int .i64 y.k)).setCell ⟨b,11,none⟩ (.int .u64 y.n)).setCell ⟨b,12,none⟩ (.string y.s)):=by
 have h1:=heap_setCell_same w b 10 _ _ (.int .i64 y.k) h;have h2:=heap_setCell_same _ b 11 _ _ (.int .u64 y.n) h1;have h3:=heap_setCell_same _ b 12 _ _ (.string y.s) h2;exact⟨by unfold bH;rw[h3];rfl,(((ai.refl [b] w).setCell (.inl (by simp)) _).setCell (.inl (by simp)) _).setCell (.inl (by simp)) _⟩
theorem FZ(b:Nat)(x:MT)(f:bG)(w:World)(h:bH w b x)(hf:f.Ok)(hK:aN w):
  Calls Tryz.prog 389 #[.pointer (some ⟨b,0,none⟩),.agg (fL f).toArray] w (bF ((iO 10 true PV.zero f).map fun v=>if v.k=0 then x else{x with m:={x.m with v:=v}}) w b):=by
 have hA1:=(ai.refl [] w).alloc (.cells (fL f).toArray 100);have hA:=hA1.alloc (.cells (fL f).toArray 100);have cV:=wB _ [f] 10 true _ (zN (b:=w.heap.size+1) (heap_alloc2_new w (.cells (fL f).toArray 100) (.cells (fL f).toArray 100)) 1) (by simp) (by simpa using hf) (by omega) (hK.own hA);rw[IY]at cV;obtain⟨⟨d0,d1,d2,d3⟩,_⟩:=q4 (heap_alloc_new w (.cells (fL f).toArray 100));obtain⟨R,hR⟩: ∃R,((iO 10 true PV.zero f).map fun v=>if v.k=0 then x else{x with m:={x.m with v:=v}})=R:=⟨_,rfl⟩;rw[hR];have hM:=h.own hA (by simp);replace hM:=af hM;have hbl:=aj h;unfold tK at cV;unfold fL at*;obtain⟨f1,f2,f3,f4⟩:=f;simp only at*;cases hv:iO 10 true PV.zero ⟨f1,f2,f3,f4⟩with
 |none=>
  rw[hv]at cV hR;simp only[Option.map_none]at hR;replace hR:=af hR.symm;replace cV:=af cV;replace hA:=af hA;clear hv hA1 hf hK h;go_enter Tryz.func389,Tryz.ntmps389
  go_wp2_with fail
  refine cV.out.mono ?_;rintro e w2 ⟨⟨y,ec,ay,rfl⟩,hO⟩;unfold PV.val;have hO2:=hA.out.trans hO;have q:(ec==0)=false:=by simpa using ay
  change Hid _ at ay;have hO3:=af ((hO2.alloc (.cells #[.int .i64 y.k,.int .u64 y.n,.string y.s] 105)).nil (S:=[b]));clear hO hO2;go_wp2_with fail
  go_ret
  exact dZ hR.out ay.out hO3.out
 |some y=>
  rw[hv]at cV hR;simp only[Option.map_some]at hR;replace cV:=af cV;replace hA:=af hA;replace hR:=af hR.symm;clear hv hA1 hf hK h;go_enter Tryz.func389,Tryz.ntmps389
  go_wp2_with fail
  refine cV.out.mono ?_;rintro e w2 ⟨rfl,hO⟩;unfold PV.val;obtain⟨y1,y2,y3⟩:=y;simp only;have hO2:=hA.out.trans hO;have hO3:=hO2.alloc (.cells #[.int .i64 y1,.int .u64 y2,.string y3] 105);have dY:=(hM.out.own hO (by simp)).own ((ai.refl [] w2).alloc (.cells #[.int .i64 y1,.int .u64 y2,.string y3] 105)) (by simp);obtain⟨⟨v0,v1,v2⟩,_⟩:=q3 (heap_alloc_new w2 (.cells #[.int .i64 y1,.int .u64 y2,.string y3] 105));by_cases hy:y1=0
  ·subst hy
   have hR2:=hR.out;simp only[if_true]at hR2;change Hid _ at hR2 dY;replace hO3:=af (hO3.nil (S:=[b]));clear hR hO hO2 hM hA cV;go_wp2_with fail
   go_ret
   exact fw hR2.out dY.out hO3.out
  ·have qy:(y1==0)=false:=by simpa using hy
   have hR2:=hR.out;simp only[if_neg hy]at hR2;change Hid _ at hR2;obtain⟨c10,XU⟩:=dY.cell 10 (u:=.int .i64 x.m.v.k) rfl;obtain⟨c11,Uj⟩:=dY.cell 11 (u:=.int .u64 x.m.v.n) rfl;obtain⟨c12,z12⟩:=dY.cell 12 (u:=.string x.m.v.s) rfl;have hM2:=hM.out.own hO (by simp);obtain⟨e10,k10⟩:=hM2.cell 10 (u:=.int .i64 x.m.v.k) rfl;obtain⟨e11,k11⟩:=hM2.cell 11 (u:=.int .u64 x.m.v.n) rfl;obtain⟨e12,k12⟩:=hM2.cell 12 (u:=.string x.m.v.s) rfl;have hb2:b<w2.heap.size:=aj hM2;change Hid _ at dY;replace hM2:=af hM2;replace hO2:=af hO2;clear hR hO hM hA cV hO3 hy;go_wp2_with fail
   go_ret
   obtain⟨hq,Ev⟩:=hM2.out.set3 ⟨y1,y2,y3⟩;exact fw hR2.out (hq.own ((ai.refl [] _).alloc _) (by simp)) ((hO2.out.nil.trans Ev).alloc _)
theorem Df(b:Nat)(x:MT)(f:bG)(w:World)(h:bH w b x)(hf:f.Ok)(hK:aN w)(hn: ¬(f.num=1\/f.num=2\/f.num=3\/f.num=4\/f.num=5\/f.num=6\/f.num=7\/f.num=8\/f.num=9\/f.num=17\/f.num=18)):
  Calls Tryz.prog 381 #[.pointer (some ⟨b,0,none⟩),.agg (fL f).toArray] w (bF (bn x f) w b):=by
 have hms:bn x f=(iO 10 true PV.zero f).map fun v=>if v.k=0 then x else{x with m:={x.m with v:=v}}:=by
  unfold bn;simp only[not_or]at hn;obtain⟨n1,n2,n3,n4,n5,n6,n7,n8,n9,n17,n18⟩:=hn;rw[if_neg n1,if_neg n2,if_neg n3,if_neg n4,if_neg n5,if_neg n6,if_neg n7,if_neg n8,if_neg n9,if_neg n17,if_neg n18]
 have hA:=(ai.refl [] w).alloc (.cells (fL f).toArray 100);have cP:=FZ b x f _ (h.own hA (by simp)) hf (hK.own hA);rw[<-hms]at cP;obtain⟨⟨d0,d1,d2,d3⟩,_⟩:=q4 (heap_alloc_new w (.cells (fL f).toArray 100));have Eo:=cP.mono (fun _ _ hp=>bF.start hA hp);generalize bn x f=R at Eo⊢;obtain⟨f1,f2,f3,f4⟩:=f;simp only[not_or]at hn;obtain⟨n1,n2,n3,n4,n5,n6,n7,n8,n9,n17,n18⟩:=hn;have q1:(f1==1)=false:=by simpa using n1
 have q2:(f1==2)=false:=by simpa using n2
 have q3:(f1==3)=false:=by simpa using n3
 have q4:(f1==4)=false:=by simpa using n4
 have q5:(f1==5)=false:=by simpa using n5
 have q6:(f1==6)=false:=by simpa using n6
 have q7:(f1==7)=false:=by simpa using n7
 have q8:(f1==8)=false:=by simpa using n8
 have q9:(f1==9)=false:=by simpa using n9
 have q17:(f1==17)=false:=by simpa using n17
 have q18:(f1==18)=false:=by simpa using n18
 unfold fL at*;simp only at*;replace Eo:=af Eo;clear cP hms hf hK h hA n1 n2 n3 n4 n5 n6 n7 n8 n9 n17 n18;go_enter Tryz.func381,Tryz.ntmps381
 go_wp2_with fail
 refine Eo.out.mono ?_;rintro e w2 hp;have hp2:=hp;cases R with
 |none=>
  obtain⟨⟨ec,ay,rfl⟩,hO⟩:=hp;change Hid _ at ay hO;replace hp2:=af hp2;go_wp2_with fail
  go_ret
  exact hp2.out
 |some y=>
  obtain⟨rfl,hM,hO⟩:=hp;change Hid _ at hM hO;replace hp2:=af hp2;go_wp2_with fail
  go_ret
  exact hp2.out
theorem Ku(b:Nat)(x:MT)(f:bG)(w:World)(h:bH w b x)(hf:f.Ok)(hK:aN w):
  Calls Tryz.prog 381 #[.pointer (some ⟨b,0,none⟩),.agg (fL f).toArray] w (bF (bn x f) w b):=by
 by_cases hn:f.num=1\/f.num=2\/f.num=3\/f.num=4\/f.num=5\/f.num=6\/f.num=7\/f.num=8\/f.num=9\/f.num=17\/f.num=18
 ·obtain⟨n,k,v,t⟩:=f
  have h0:=hf.v0;have h1:=hf.v1;simp only at hn h0 h1;rcases hn with rfl|rfl|rfl|rfl|rfl|rfl|rfl|rfl|rfl|rfl|rfl
  ·exact RQ b x k v t w h h0 h1
  ·exact RS b x k v t w h h0 h1
  ·exact RU b x k v t w h h0 h1
  ·exact RV b x k v t w h h0 h1
  ·exact RX b x k v t w h h0 h1
  ·exact RY b x k v t w h h0 h1
  ·exact RZ b x k v t w h h0 h1
  ·exact R3 b x k v t w h h0 h1
  ·exact R4 b x k v t w h h0 h1
  ·exact OE b x k v t w h h0 h1
  ·exact OG b x k v t w h h0 h1
 ·exact Df b x f w h hf hK hn
end Go.Proofs.YtedcakchekaemaaGreatDoor
namespace Go.Proofs.YtedcakchekaemaaGreatDoor
open Go.RowKit
def iB(s:kH):ByteArray×Int:=
 if s.k<1\/9<s.k then(⟨#[]⟩,11)
 else if(gK s.k<5/\s.d.size≠0)\/(s.k=9/\s.g.size≠0)then(⟨#[]⟩,4)
 else if(iY s).all gX=false then(⟨#[]⟩,13)
 else if lZ (lH (lI s))=true then(lH (lI s),0)else(⟨#[]⟩,13)
def ES(r:ByteArray×Int)(e:Ending):Prop:=e=.returned (.tuple #[.string r.1,.int .i64 r.2])
theorem pI(n:Int):ES (⟨#[]⟩,n) (.returned (.tuple #[.string ⟨#[]⟩,.int .i64 n])):=rfl
theorem Rm(s:ByteArray):ES (s,0) (.returned (.tuple #[.string s,.int .i64 0])):=rfl
theorem fq{s:ByteArray}(h:gX s=true):s.size<=96:=by
 unfold gX lZ oq at h;simp at h;omega
theorem BX: ∀l:List (List UInt8),(Lib.join l [47]).length<=(l.map List.length).sum+l.length
 | []=>by simp[Lib.join]
 | [x]=>by simp[Lib.join]
 |x::y::t=>by
  have:=BX (y::t);rw[EQ];simp at this⊢;omega
theorem ET(xs:List ByteArray):(lH xs).size<=(xs.map ByteArray.size).sum+xs.length:=by
 have:=BX (xs.map (·.data.toList));unfold lH;rw[Lib.size_eq];simp only[List.map_map,List.length_map]at this;have e:(List.length∘fun x:ByteArray=>x.data.toList)=ByteArray.size:=by funext x;exact(Lib.size_eq x).symm
 rw[e]at this;exact this
theorem BZ(k:Int):(fG k).size<=6:=by
 unfold fG
 repeat(first|(split; · decide)|decide)
theorem Ca{s:kH}(h:(iY s).all gX=true):(lH (lI s)).size<=1000:=by
 have h1:=ET (lI s);have hw:=BZ s.k;have hr:mY.size=7:=rfl;have ht:wV.size=5:=rfl;unfold lI at h1⊢;unfold iY at h;split at h
 ·rename_i h9
  rw[if_pos h9]at h1⊢;simp at h h1;have:=fq h;omega
 ·rename_i h9
  rw[if_neg h9]at h1⊢;split at h
  ·rename_i h5
   rw[if_pos h5]at h1⊢;simp at h h1;have:=fq h.1;have:=fq h.2.1;have:=fq h.2.2;omega
  ·rename_i h5
   rw[if_neg h5]at h1⊢;simp at h h1;have:=fq h.1;have:=fq h.2;omega
theorem qH(x:ByteArray):(x.size=0/\x.toList.isEmpty=true/\x.toList=[])\/(x.size≠0/\x.toList.isEmpty=false):=by
 by_cases h:x.size=0
 ·have:x.toList=[]:=List.eq_nil_of_length_eq_zero (by rw[Lib.toList_data,<-Lib.size_eq];exact h)
  exact .inl ⟨h,by rw[this];rfl,this⟩
 ·refine .inr ⟨h,?_⟩
  rw[List.isEmpty_eq_false_iff];intro e;apply h;rw[Lib.size_eq,<-Lib.toList_data,e];rfl
theorem Iq(s:kH)(w:World)(hW:dz w)(hT:jG w)(hM:pG w):Calls Tryz.prog 52 #[.agg #[.int .i64 s.k,.string s.g,.string s.n,.string s.d]] w fun e w'=>ES (iB s) e/\ai [] w w':=by
 obtain⟨R,hR⟩: ∃R,iB s=R:=⟨_,rfl⟩;rw[hR];unfold iB at hR;have aH:ai [] w (w.alloc (.cells #[.int .i64 s.k,.string s.g,.string s.n,.string s.d] 76)):=(ai.refl _ _).alloc _;have hb:=heap_alloc_new w (.cells #[.int .i64 s.k,.string s.g,.string s.n,.string s.d] 76);obtain⟨f0,f1,f2,f3⟩:=fC hb;have cW:=af (fun W=>zq s.k W);have cP:=af (JE s (w.alloc (.cells #[.int .i64 s.k,.string s.g,.string s.n,.string s.d] 76)) (hW.own aH));replace aH:=af aH;clear hb;by_cases hk:s.k<1\/9<s.k
 ·rw[if_pos hk]at hR
  subst hR;have hk2:s.k<1\/(¬s.k<1/\9<s.k):=by omega
  clear hk cP cW;rcases hk2 with h|⟨h,h'⟩
  all_goals
   generalize s.k=k at*;go_enter Tryz.func52,Tryz.ntmps52
   go_wp2_with fail
   go_ret2
   exact⟨pI 11,aH.out⟩
 ·rw[if_neg hk]at hR
  have hk1: ¬s.k<1:=fun h=>hk (.inl h)
  have Jm: ¬9<s.k:=fun h=>hk (.inr h)
  by_cases h4:(gK s.k<5/\s.d.size≠0)\/(s.k=9/\s.g.size≠0)
  ·rw[if_pos h4]at hR
   subst hR;obtain⟨wd,hwd⟩: ∃wd,gK s.k=wd:=⟨_,rfl⟩;have hw9:s.k=9->wd=3:=fun h=>by rw[<-hwd];unfold gK;rw[if_pos h]
   rw[hwd]at cW h4;rcases qH s.d with⟨d0,d1,d2⟩|⟨d0,d1⟩
   ·have h9:s.k=9/\s.g.size≠0:=by rcases h4 with h|h;exact absurd d0 h.2;exact h
    have w3:=hw9 h9.1;rcases qH s.g with⟨g0,_⟩|⟨g0,g1⟩
    ·exact absurd g0 h9.2
    ·have q1:(s.k==9)=true:=by simpa using h9.1
     rw[w3]at cW;clear h4 hw9 h9 w3 hwd cP hk d0 g0;generalize s.k=k at*;generalize s.d=d at*;generalize s.g=g at*;go_enter Tryz.func52,Tryz.ntmps52
     go_wp2_with(go_at_call 87;((with_reducible refine(cW.out _).mono ?_);rintro e w2 ⟨rfl,rfl⟩))
     go_ret2
     exact⟨pI 4,aH.out⟩
   ·by_cases h5:wd<5
    ·have q1:decide (wd<5)=true:=by simpa using h5
     clear h4 hw9 hwd cP hk d0;generalize s.k=k at*;generalize s.d=d at*;go_enter Tryz.func52,Tryz.ntmps52
     go_wp2_with(go_at_call 87;((with_reducible refine(cW.out _).mono ?_);rintro e w2 ⟨rfl,rfl⟩))
     go_ret2
     exact⟨pI 4,aH.out⟩
    ·exact absurd h4 (by
     rintro(h|h)
     ·exact h5 h.1
     ·have:=hw9 h.1;omega)
  ·rw[if_neg h4]at hR
   obtain⟨wd,hwd⟩: ∃wd,gK s.k=wd:=⟨_,rfl⟩;rw[hwd]at cW h4;have Ra:decide (wd<5)=false\/(decide (wd<5)=true/\s.d.toList.isEmpty=true/\s.d.toList=[]):=by
    by_cases h5:wd<5
    ·rcases qH s.d with⟨d0,d1,d2⟩|⟨d0,d1⟩
     ·exact .inr ⟨by simpa using h5,d1,d2⟩
     ·exact absurd (.inl ⟨h5,d0⟩) h4
    ·exact .inl (by simpa using h5)
   have hC2:(s.k==9)=false\/((s.k==9)=true/\s.g.toList.isEmpty=true/\s.g.toList=[]):=by
    by_cases h9:s.k=9
    ·rcases qH s.g with⟨d0,d1,d2⟩|⟨d0,d1⟩
     ·exact .inr ⟨by simpa using h9,d1,d2⟩
     ·exact absurd (.inr ⟨h9,d0⟩) h4
    ·exact .inl (by simpa using h9)
   have hJ:= @Ca s;obtain⟨A,hA⟩: ∃A,lI s=A:=⟨_,rfl⟩;obtain⟨F,hF⟩: ∃F,iY s=F:=⟨_,rfl⟩;rw[hA]at hR hJ cP;rw[hF]at hR hJ cP;have hFl:F.length<=3:=by rw[<-hF];unfold iY;split;simp;split<;>simp
   have XO:A.length<=5:=by rw[<-hA];unfold lI;split;simp;split<;>simp
   have hst:(F.drop 0).all gX=F.all gX:=by rw[List.drop_zero]
   obtain⟨al,hal⟩: ∃al,F.all gX=al:=⟨_,rfl⟩;rw[hal]at hR hJ hst;change Hid _ at hst hJ hR;clear h4 hwd hk hA hF hal;generalize s.k=k at*;generalize s.g=g at*;generalize s.d=d at*;rcases Ra with c1|⟨c1,c2,c3⟩
   all_goals
    rcases hC2 with k1|⟨k1,k2,k3⟩
    all_goals
     go_enter Tryz.func52,Tryz.ntmps52
     go_wp2_with(first
      |(go_at_call 87;((with_reducible refine(cW.out _).mono ?_);rintro e w2 ⟨rfl,rfl⟩))
      |(go_at_call 88;((with_reducible refine cP.out.mono ?_);rintro e w3 ⟨a1,b1,rfl,sM,hRF,hO3⟩;replace hO3:=af (aH.out.trans hO3);replace sM:=af sM;replace hRF:=af hRF;clear cP cW f0 f1 f2 f3)))
     go_loopg[7,41] F.length (fun g _ s41 wr=> ∃i:Nat,s41=.int .i64 i/\i+g=F.length/\Aside (ai [] w wr/\ai [] w3 wr/\(F.drop i).all gX=al))
     case atStart=>exact⟨0,rfl,by simp,hO3.out,ai.refl _ _,hst.out⟩
     case round=>
      obtain⟨i,rfl,hg,hO,hO4,hF⟩:=hrel;have hw1:IntKind.i64.wrap ((i:Int)+1)=((i+1:Nat):Int):=by rw[IntKind.wrap_i64];omega
      clear hst;by_cases hlt:i<F.length
      ·have h1:(i:Int)<F.length:=by omega
       have h0:(0:Int)<=i:=by omega
       obtain⟨x,hx⟩: ∃x,F[i]?=some x:=⟨_,List.getElem?_eq_getElem hlt⟩;obtain⟨b0,o0,hb0,hC⟩:=(hRF.out.nil' hO4).at_ (k:=1) kG (by omega);cases hb0;have cc:wr.cell? ⟨b1,0+i,none⟩=some (.string x):=by simpa using hC i x 0 (.string x) hx rfl
       rw[Nat.zero_add]at cc;have hd:F.drop i=x::F.drop (i+1):=by
        obtain⟨hl,rfl⟩:=List.getElem?_eq_some_iff.1 hx;exact List.drop_eq_getElem_cons hl
       rw[hd,List.all_cons]at hF;have cX:=af (Nk x wr (hT.own hO (by simp)) (hM.own hO));change Hid _ at hg hx hd;replace hO:=af hO;replace hO4:=af hO4;clear hC;cases hp:gX x with
       |false=>
        rw[hp]at hF cX;have ha:al=false:=by rw[<-hF];rfl
        have e1:R=(⟨#[]⟩,13):=by rw[<-hR.out,if_pos ha]
        change Hid _ at e1;clear hF hp ha;go_wp2_with fail
        with_reducible refine cX.out.mono ?_
        rintro e w5 ⟨rfl,aB⟩;replace aB:=af (hO.out.trans aB);go_wp2_with fail
        go_ret2
        exact⟨by rw[e1.out];exact pI 13,aB.out⟩
       |true=>
        rw[hp]at hF cX;have hF2:=af (show(F.drop (i+1)).all gX=al by rw[<-hF];simp);clear hF hp;go_wp2_with fail
        with_reducible refine cX.out.mono ?_
        rintro e w5 ⟨rfl,aB⟩;have bI:=af (hO4.out.trans aB);replace aB:=af (hO.out.trans aB);go_wp2_with fail
        go_roundg(F.length-(i+1))
        case rel=>exact⟨i+1,by go_num,by omega,aB.out,bI.out,hF2.out⟩
        case measure=>have:=hg.out;omega
      ·have h1: ¬(i:Int)<F.length:=by omega
       rw[List.drop_of_length_le (by omega)]at hF;have ha:al=true:=by rw[<-hF];rfl
       have eR:R=if lZ (lH A)=true then(lH A,0)else(⟨#[]⟩,13):=by rw[<-hR.out,if_neg (by rw[ha];simp)]
       have cJ:=af (Nj A _ wr (sM.out.nil' hO4) (fun a n c e=>by cases e;exact Nat.le_refl _) (by omega) (hJ.out ha));have cM:=af (fun W (h:jG W)=>BR (lH A) W h);replace hO:=af hO;clear hF hg ha hO4;cases hn:lZ (lH A)with
       |false=>
        rw[hn]at eR cM;change Hid _ at eR;go_wp2_with fail
        with_reducible refine cJ.out.mono ?_
        rintro e w5 ⟨rfl,aB⟩;replace aB:=af (hO.out.trans aB);go_wp2_with fail
        with_reducible refine(cM.out _ (by exact hT.own aB.out (by simp))).mono ?_
        rintro e w6 ⟨rfl,bI⟩;replace bI:=af (aB.out.trans bI);go_wp2_with fail
        go_ret2
        exact⟨by rw[eR.out,if_neg (by simp)];exact pI 13,bI.out⟩
       |true=>
        rw[hn]at eR cM;change Hid _ at eR;go_wp2_with fail
        with_reducible refine cJ.out.mono ?_
        rintro e w5 ⟨rfl,aB⟩;replace aB:=af (hO.out.trans aB);go_wp2_with fail
        with_reducible refine(cM.out _ (by exact hT.own aB.out (by simp))).mono ?_
        rintro e w6 ⟨rfl,bI⟩;replace bI:=af (aB.out.trans bI);go_wp2_with fail
        go_ret2
        exact⟨by rw[eR.out,if_pos trivial];exact Rm _,bI.out⟩
end Go.Proofs.YtedcakchekaemaaGreatDoor
namespace Go.Proofs.YtedcakchekaemaaGreatDoor
open Go.RowKit
variable [Kd]
theorem vH(f:bG)(most:Int)(w:World):
  Calls Tryz.prog 418 #[.agg (fL f).toArray,.int .u64 most] w (eG (f.kind==0&&decide (f.val<=most)) f.val w):=by
 obtain⟨n,k,v,t⟩:=f;unfold fL;have hO:=(ai.refl [] w).alloc (.cells #[.int .i64 n,.int .i64 k,.int .u64 v,.string t] 100);show Calls _ _ _ _ (eG (k==0&&decide (v<=most)) v w);by_cases h0:k=0
 ·subst h0
  by_cases hv:v<=most
  ·have q:decide (v<=most)=true:=by simpa using hv
   have hv': ¬most<v:=by omega
   rw[q];go_enter Tryz.func418,Tryz.ntmps418
   go_wp2_with fail
   go_ret2
   exact⟨rfl,hO⟩
  ·have q:decide (v<=most)=false:=by simpa using hv
   have hv':most<v:=by omega
   rw[q];go_enter Tryz.func418,Tryz.ntmps418
   go_wp2_with fail
   go_ret2
   exact⟨⟨5,by decide,rfl⟩,hO⟩
 ·have q:(k==0)=false:=by simpa using h0
  rw[q];go_enter Tryz.func418,Tryz.ntmps418
  go_wp2_with fail
  go_ret2
  exact⟨⟨4,by decide,rfl⟩,hO⟩
structure Fo where
 key:ByteArray
 ty:Int
 nu:Bool
 v:PV
 set:ByteArray
def wD(x:Fo):Array Value:=#[.string x.key,.int .u32 x.ty,.bool x.nu,.int .i64 x.v.k,.int .u64 x.v.n,.string x.v.s,.slice none 0 0,.string x.set]
def mH(w:World)(b:Nat)(x:Fo):Prop:=w.heap[b]?=some (.cells (wD x) 557 (0,0))
theorem mH.own{S:List Nat}{w w':World}{b:Nat}{x:Fo}(h:mH w b x)(ho:ai S w w')(hb:b∉S):mH w' b x:=ai.heap ho h hb
theorem mH.cell{w:World}{b:Nat}{x:Fo}(h:mH w b x)(i:Nat){u:Value}(hu:(wD x)[i]?=some u):w.cell? ⟨b,i,none⟩=some u/\w.frozen? ⟨b,i,none⟩=false:=
 ⟨by rw[cell_of_row _ _ _ _ _ _ h];exact hu,frozen_of_row _ b i _ _ h⟩
theorem mH.set1{w:World}{b:Nat}{x x':Fo}(h:mH w b x)(i:Nat)(v:Value)(hx:(wD x).setIfInBounds i v=wD x'):mH (w.setCell ⟨b,i,none⟩ v) b x'/\ai [b] w (w.setCell ⟨b,i,none⟩ v):=by
 have h1:=heap_setCell_same w b i _ _ v h;rw[hx]at h1;exact⟨h1,(ai.refl [b] w).setCell (.inl (by simp)) _⟩
theorem mH.set3{w:World}{b:Nat}{x:Fo}(h:mH w b x)(y:PV):mH (((w.setCell ⟨b,3,none⟩ (.int .i64 y.k)).setCell ⟨b,4,none⟩ (.int .u64 y.n)).setCell ⟨b,5,none⟩ (.string y.s)) b {x with v:=y}/\
  ai [b] w (((w.setCell ⟨b,3,none⟩ (.int .i64 y.k)).setCell ⟨b,4,none⟩ (.int .u64 y.n)).setCell ⟨b,5,none⟩ (.string y.s)):=by
 have h1:=heap_setCell_same w b 3 _ _ (.int .i64 y.k) h;have h2:=heap_setCell_same _ b 4 _ _ (.int .u64 y.n) h1;have h3:=heap_setCell_same _ b 5 _ _ (.string y.s) h2;exact⟨by unfold mH;rw[h3];rfl,(((ai.refl [b] w).setCell (.inl (by simp)) _).setCell (.inl (by simp)) _).setCell (.inl (by simp)) _⟩
def Fo.st(x:Fo):Bool×ByteArray:=(x.v.k==8,x.set)
def gP(t:Option (Bool×ByteArray))(w:World)(b:Nat)(e:Ending)(w':World):Prop:=
 match t with
 |some st=>(e=.returned (.int .i64 0)/\ ∃x:Fo,mH w' b x/\x.st=st)/\ai [b] w w'
 |none=>(∃ec:Int,ec≠0/\e=.returned (.int .i64 ec))/\ai [b] w w'
theorem nI{t:Option (Bool×ByteArray)}{w w':World}{b:Nat}{x:Fo}(ht:t=some x.st)(h:mH w' b x)(ho:ai [b] w w'):gP t w b (.returned (.int .i64 0)) w':=by rw[ht];exact⟨⟨rfl,x,h,rfl⟩,ho⟩
theorem qL{t:Option (Bool×ByteArray)}{w w':World}{b:Nat}{ec:Int}(ht:t=none)(h:ec≠0)(ho:ai [b] w w'):gP t w b (.returned (.int .i64 ec)) w':=by rw[ht];exact⟨⟨ec,h,rfl⟩,ho⟩
theorem R5{n:Int}(h3:3<=n/\n<=8):iq n 3 false=n-2:=by
 unfold iq;have: ¬(n-3+1<1\/7<n-3+1\/(n-3+1=7/\false=false)):=by
  rintro(h|h|⟨h,_⟩)<;>omega
 rw[if_neg this];omega
theorem Dg{f:bG}(h3:3<=f.num/\f.num<=8){v:PV}(h:iO 3 false PV.zero f=some v):v.k=f.num-2:=by
 unfold iO at h;rw[R5 h3,if_neg (by omega)]at h;split at h
 ·cases h
 ·split at h
  ·cases h
  ·simp only[Option.some.injEq]at h
   subst h;rfl
theorem R6(b:Nat)(x:Fo)(k v:Int)(t:ByteArray)(w:World)(h:mH w b x)(h0:0<=v):
  Calls Tryz.prog 413 #[.pointer (some ⟨b,0,none⟩),.agg #[.int .i64 1,.int .i64 k,.int .u64 v,.string t]] w (gP (bU x.st ⟨1,k,v,t⟩) w b):=by
 have hms:bU x.st ⟨1,k,v,t⟩=if k=0/\v<=4294967295 then some x.st else none:=by simp[bU]
 generalize bU x.st ⟨1,k,v,t⟩=R at hms⊢;have hA:=(ai.refl [] w).alloc (.cells #[.int .i64 1,.int .i64 k,.int .u64 v,.string t] 100);have hF1:=h.own hA (by simp);have hbl:=aj h;obtain⟨⟨d0,d1,d2,d3⟩,_⟩:=q4 (heap_alloc_new w (.cells #[.int .i64 1,.int .i64 k,.int .u64 v,.string t] 100));have cN:=vH ⟨1,k,v,t⟩ 4294967295 (w.alloc (.cells #[.int .i64 1,.int .i64 k,.int .u64 v,.string t] 100));unfold fL at cN;simp only at cN;by_cases hok:k=0/\v<=4294967295
 ·rw[if_pos hok]at hms
  have hb:(k==0&&decide (v<=4294967295))=true:=by simpa using hok
  have hm:v%4294967296=v:=by omega
  rw[hb]at cN;unfold eG at cN;change Hid _ at hms;replace cN:=af cN;replace hA:=af hA;clear hok hb h;go_enter Tryz.func413,Tryz.ntmps413
  go_wp2_with fail
  refine cN.out.mono ?_;rintro e w2 ⟨rfl,hO⟩;have hF2:=hF1.own hO (by simp);have hO2:=hA.out.trans hO;obtain⟨c1,z1⟩:=hF2.cell 1 (u:=.int .u32 x.ty) rfl;obtain⟨vT,hO3⟩:=hF2.set1 (x':={x with ty:=v}) 1 (.int .u32 v) rfl;have hO4:=af (hO2.nil.trans hO3);change Hid _ at vT;clear hF1 hF2 hO hO2 hO3;go_wp2_with fail
  go_ret
  exact nI (x:={x with ty:=v}) hms.out vT.out hO4.out
 ·rw[if_neg hok]at hms
  have hb:(k==0&&decide (v<=4294967295))=false:=by
   rw[Bool.eq_false_iff];intro hh;exact hok (by simpa using hh)
  rw[hb]at cN;unfold eG at cN;change Hid _ at hms;replace cN:=af cN;replace hA:=af hA;clear hok hb h;go_enter Tryz.func413,Tryz.ntmps413
  go_wp2_with fail
  refine cN.out.mono ?_;rintro e w2 ⟨⟨ec,ay,rfl⟩,hO⟩;have hF2:=hF1.own hO (by simp);have hO2:=hA.out.trans hO;obtain⟨c1,z1⟩:=hF2.cell 1 (u:=.int .u32 x.ty) rfl;obtain⟨vT,hO3⟩:=hF2.set1 (x':={x with ty:=0}) 1 (.int .u32 0) rfl;have hO4:=af (hO2.nil.trans hO3);change Hid _ at ay;clear hF1 hF2 hO hO2 hO3 vT;go_wp2_with fail
  go_ret
  exact qL hms.out ay.out hO4.out
theorem R7(b:Nat)(x:Fo)(k v:Int)(t:ByteArray)(w:World)(h:mH w b x)(h0:0<=v):
  Calls Tryz.prog 413 #[.pointer (some ⟨b,0,none⟩),.agg #[.int .i64 2,.int .i64 k,.int .u64 v,.string t]] w (gP (bU x.st ⟨2,k,v,t⟩) w b):=by
 have hms:bU x.st ⟨2,k,v,t⟩=if k=0/\v<=1 then some x.st else none:=by simp[bU]
 generalize bU x.st ⟨2,k,v,t⟩=R at hms⊢;have hA:=(ai.refl [] w).alloc (.cells #[.int .i64 2,.int .i64 k,.int .u64 v,.string t] 100);have hF1:=h.own hA (by simp);have hbl:=aj h;obtain⟨⟨d0,d1,d2,d3⟩,_⟩:=q4 (heap_alloc_new w (.cells #[.int .i64 2,.int .i64 k,.int .u64 v,.string t] 100));have cN:=vH ⟨2,k,v,t⟩ 1 (w.alloc (.cells #[.int .i64 2,.int .i64 k,.int .u64 v,.string t] 100));unfold fL at cN;simp only at cN;by_cases hok:k=0/\v<=1
 ·rw[if_pos hok]at hms
  have hb:(k==0&&decide (v<=1))=true:=by simpa using hok
  rw[hb]at cN;unfold eG at cN;change Hid _ at hms;replace cN:=af cN;replace hA:=af hA;clear hok hb h;go_enter Tryz.func413,Tryz.ntmps413
  go_wp2_with fail
  refine cN.out.mono ?_;rintro e w2 ⟨rfl,hO⟩;have hF2:=hF1.own hO (by simp);have hO2:=hA.out.trans hO;obtain⟨c1,z1⟩:=hF2.cell 2 (u:=.bool x.nu) rfl;obtain⟨vT,hO3⟩:=hF2.set1 (x':={x with nu:=v==1}) 2 (.bool (v==1)) rfl;have hO4:=af (hO2.nil.trans hO3);change Hid _ at vT;clear hF1 hF2 hO hO2 hO3;go_wp2_with fail
  go_ret
  exact nI (x:={x with nu:=v==1}) hms.out vT.out hO4.out
 ·rw[if_neg hok]at hms
  have hb:(k==0&&decide (v<=1))=false:=by
   rw[Bool.eq_false_iff];intro hh;exact hok (by simpa using hh)
  rw[hb]at cN;unfold eG at cN;change Hid _ at hms;replace cN:=af cN;replace hA:=af hA;clear hok hb h;go_enter Tryz.func413,Tryz.ntmps413
  go_wp2_with fail
  refine cN.out.mono ?_;rintro e w2 ⟨⟨ec,ay,rfl⟩,hO⟩;have hF2:=hF1.own hO (by simp);have hO2:=hA.out.trans hO;obtain⟨c1,z1⟩:=hF2.cell 2 (u:=.bool x.nu) rfl;obtain⟨vT,hO3⟩:=hF2.set1 (x':={x with nu:=false}) 2 (.bool false) rfl;have hO4:=af (hO2.nil.trans hO3);change Hid _ at ay;clear hF1 hF2 hO hO2 hO3 vT;go_wp2_with fail
  go_ret
  exact qL hms.out ay.out hO4.out
theorem R8(b:Nat)(x:Fo)(k v:Int)(t:ByteArray)(w:World)(h:mH w b x):
  Calls Tryz.prog 413 #[.pointer (some ⟨b,0,none⟩),.agg #[.int .i64 9,.int .i64 k,.int .u64 v,.string t]] w (gP (bU x.st ⟨9,k,v,t⟩) w b):=by
 have hms:bU x.st ⟨9,k,v,t⟩=if k=2 then some (true,t)else none:=by simp[bU]
 generalize bU x.st ⟨9,k,v,t⟩=R at hms⊢;have hA:=(ai.refl [] w).alloc (.cells #[.int .i64 9,.int .i64 k,.int .u64 v,.string t] 100);have hF1:=h.own hA (by simp);have hbl:=aj h;obtain⟨⟨d0,d1,d2,d3⟩,_⟩:=q4 (heap_alloc_new w (.cells #[.int .i64 9,.int .i64 k,.int .u64 v,.string t] 100));by_cases hok:k=2
 ·subst hok
  rw[if_pos rfl]at hms;change Hid _ at hms;obtain⟨c3,z3⟩:=hF1.cell 3 (u:=.int .i64 x.v.k) rfl;obtain⟨c4,z4⟩:=hF1.cell 4 (u:=.int .u64 x.v.n) rfl;obtain⟨c5,z5⟩:=hF1.cell 5 (u:=.string x.v.s) rfl;obtain⟨c7,z7⟩:=hF1.cell 7 (u:=.string x.set) rfl;obtain⟨e3,k3⟩:=h.cell 3 (u:=.int .i64 x.v.k) rfl;obtain⟨e4,k4⟩:=h.cell 4 (u:=.int .u64 x.v.n) rfl;obtain⟨e5,k5⟩:=h.cell 5 (u:=.string x.v.s) rfl;obtain⟨e7,k7⟩:=h.cell 7 (u:=.string x.set) rfl;change Hid _ at hA hF1;replace h:=af h;go_enter Tryz.func413,Tryz.ntmps413
  go_wp2_with fail
  go_region
  all_goals
   go_wp2_with fail
   go_ret
   obtain⟨hF2,hO2⟩:=h.out.set3 ⟨8,0,⟨#[]⟩⟩;obtain⟨vT,hO3⟩:=hF2.set1 (x':={x with v:=⟨8,0,⟨#[]⟩⟩,set:=t}) 7 (.string t) rfl;exact nI (x:={x with v:=⟨8,0,⟨#[]⟩⟩,set:=t}) hms.out (vT.own ((ai.refl [] _).alloc _).drew (by simp)) ((hO2.trans hO3).alloc _).drew
 ·rw[if_neg hok]at hms
  have q:(k !=2)=true:=by simpa using hok
  change Hid _ at hms;replace hA:=af (hA.nil (S:=[b]));clear hok h hF1;go_enter Tryz.func413,Tryz.ntmps413
  go_wp2_with fail
  go_ret
  exact qL hms.out (by decide) hA.out
theorem F3(b:Nat)(x:Fo)(f:bG)(w:World)(h:mH w b x)(h1:f.num≠1)(h2:f.num≠2)(h9:f.num≠9)(MC: ¬(3<=f.num/\f.num<=8)):
  Calls Tryz.prog 413 #[.pointer (some ⟨b,0,none⟩),.agg (fL f).toArray] w (gP (bU x.st f) w b):=by
 have hms:bU x.st f=some x.st:=by unfold bU;rw[if_neg h1,if_neg h2,if_neg h9,if_neg MC]
 generalize bU x.st f=R at hms⊢;obtain⟨n,k,v,t⟩:=f;simp only at h1 h2 h9 MC;unfold fL;have hA:=(ai.refl [] w).alloc (.cells #[.int .i64 n,.int .i64 k,.int .u64 v,.string t] 100);have hF1:=h.own hA (by simp);obtain⟨⟨d0,d1,d2,d3⟩,_⟩:=q4 (heap_alloc_new w (.cells #[.int .i64 n,.int .i64 k,.int .u64 v,.string t] 100));have q1:(n==1)=false:=by simpa using h1
 have q2:(n==2)=false:=by simpa using h2
 have q9:(n==9)=false:=by simpa using h9
 change Hid _ at hms hF1;replace hA:=af (hA.nil (S:=[b]));clear h1 h2 h9 h;by_cases h3:3<=n
 ·have h8: ¬n<=8:=fun hh=>MC ⟨h3,hh⟩
  clear MC;go_enter Tryz.func413,Tryz.ntmps413
  go_wp2_with fail
  go_ret
  exact nI hms.out hF1.out hA.out
 ·clear MC
  go_enter Tryz.func413,Tryz.ntmps413
  go_wp2_with fail
  go_ret
  exact nI hms.out hF1.out hA.out
theorem Dh(b:Nat)(x:Fo)(f:bG)(w:World)(h:mH w b x)(hf:f.Ok)(hK:aN w)(MC:3<=f.num/\f.num<=8):
  Calls Tryz.prog 413 #[.pointer (some ⟨b,0,none⟩),.agg (fL f).toArray] w (gP (bU x.st f) w b):=by
 have hms:bU x.st f=(iO 3 false PV.zero f).map fun _=>(false,x.set):=by unfold bU;rw[if_neg (by omega),if_neg (by omega),if_neg (by omega),if_pos MC];rfl
 generalize bU x.st f=R at hms⊢;have hA1:=(ai.refl [] w).alloc (.cells (fL f).toArray 100);have hA:=hA1.alloc (.cells (fL f).toArray 100);have cV:=wB _ [f] 3 false _ (zN (b:=w.heap.size+1) (heap_alloc2_new w (.cells (fL f).toArray 100) (.cells (fL f).toArray 100)) 1) (by simp) (by simpa using hf) (by omega) (hK.own hA);rw[IY]at cV;have hkk:= @Dg _ f MC;obtain⟨⟨d0,d1,d2,d3⟩,_⟩:=q4 (heap_alloc_new w (.cells (fL f).toArray 100));have hF:=h.own hA (by simp);replace hF:=af hF;have hbl:=aj h;unfold tK at cV;unfold fL at*;obtain⟨n,k,v,t⟩:=f;simp only at*;have q1:(n==1)=false:=by rw[beq_eq_false_iff_ne];omega
 have q2:(n==2)=false:=by rw[beq_eq_false_iff_ne];omega
 have q9:(n==9)=false:=by rw[beq_eq_false_iff_ne];omega
 obtain⟨h3,h8⟩:=MC;cases hv:iO 3 false PV.zero ⟨n,k,v,t⟩with
 |none=>
  rw[hv]at cV hms;simp only[Option.map_none]at hms;replace hms:=af hms;replace cV:=af cV;replace hA:=af hA;clear hv hA1 hf hK h hkk;go_enter Tryz.func413,Tryz.ntmps413
  go_wp2_with fail
  refine cV.out.mono ?_;rintro e w2 ⟨⟨y,ec,ay,rfl⟩,hO⟩;unfold PV.val;obtain⟨y1,y2,y3⟩:=y;simp only;have hF2:=hF.out.own hO (by simp);obtain⟨c3,z3⟩:=hF2.cell 3 (u:=.int .i64 x.v.k) rfl;obtain⟨c4,z4⟩:=hF2.cell 4 (u:=.int .u64 x.v.n) rfl;obtain⟨c5,z5⟩:=hF2.cell 5 (u:=.string x.v.s) rfl;obtain⟨vT,hO3⟩:=hF2.set3 ⟨y1,y2,y3⟩;have hO4:=af ((hA.out.trans hO).nil.trans hO3);change Hid _ at ay;clear hF hF2 hO hO3 vT;go_wp2_with fail
  go_ret
  exact qL hms.out ay.out hO4.out
 |some y=>
  rw[hv]at cV hms;simp only[Option.map_some]at hms;have hyk:=hkk hv;replace hms:=af hms;replace cV:=af cV;replace hA:=af hA;obtain⟨y1,y2,y3⟩:=y;simp only at hyk;have hy8:(y1==8)=false:=by rw[beq_eq_false_iff_ne];omega
  change Hid _ at hyk;clear hv hA1 hf hK h hkk;go_enter Tryz.func413,Tryz.ntmps413
  go_wp2_with fail
  refine cV.out.mono ?_;rintro e w2 ⟨rfl,hO⟩;unfold PV.val;simp only;have hF2:=hF.out.own hO (by simp);obtain⟨c3,z3⟩:=hF2.cell 3 (u:=.int .i64 x.v.k) rfl;obtain⟨c4,z4⟩:=hF2.cell 4 (u:=.int .u64 x.v.n) rfl;obtain⟨c5,z5⟩:=hF2.cell 5 (u:=.string x.v.s) rfl;obtain⟨vT,hO3⟩:=hF2.set3 ⟨y1,y2,y3⟩;have hO4:=af ((hA.out.trans hO).nil.trans hO3);have hst:(⟨x.key,x.ty,x.nu,⟨y1,y2,y3⟩,x.set⟩:Fo).st=(false,x.set):=by unfold Fo.st;simp only;rw[hy8]
  change Hid _ at vT hst;clear hF hF2 hO hO3;go_wp2_with fail
  go_ret
  exact nI (x:={x with v:=⟨y1,y2,y3⟩}) (hms.out.trans (by rw[<-hst.out])) vT.out hO4.out
theorem Kv(b:Nat)(x:Fo)(f:bG)(w:World)(h:mH w b x)(hf:f.Ok)(hK:aN w):
  Calls Tryz.prog 413 #[.pointer (some ⟨b,0,none⟩),.agg (fL f).toArray] w (gP (bU x.st f) w b):=by
 by_cases MC:3<=f.num/\f.num<=8
 ·exact Dh b x f w h hf hK MC
 by_cases h1:f.num=1
 ·obtain⟨n,k,v,t⟩:=f
  simp only at h1;subst h1;exact R6 b x k v t w h hf.v0
 by_cases h2:f.num=2
 ·obtain⟨n,k,v,t⟩:=f
  simp only at h2;subst h2;exact R7 b x k v t w h hf.v0
 by_cases h9:f.num=9
 ·obtain⟨n,k,v,t⟩:=f
  simp only at h9;subst h9;exact R8 b x k v t w h
 exact F3 b x f w h h1 h2 h9 MC
end Go.Proofs.YtedcakchekaemaaGreatDoor
