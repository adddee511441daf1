/- Contracts of the program, part 5. -/
import Derived.Test.YtedcakchekaemaaGreatDoorMp02
import Derived.Deep.RegionHeld3
import Derived.Deep.DrawnRows
import Derived.Test.YtedcakchekaemaaGreatDoorMp03
set_option maxRecDepth 100000
set_option maxHeartbeats 16000000
set_option linter.all false
namespace Go.Proofs.YtedcakchekaemaaGreatDoor
open Go.RowKit
theorem ay{w:World}{b:Nat}{cs:Array Value}{T:TypeId}(h:w.heap[b]?=some (.cells cs T (0,0))){j:Nat}{v:Value}(hv:cs[j]?=some v):w.cell? ⟨b,j,none⟩=some v:=(cell_of_row w b j cs _ _ h).trans hv
theorem aZ{w:World}{b:Nat}{cs:Array Value}{T:TypeId}(h:w.heap[b]?=some (.cells cs T (0,0)))(j:Nat):w.frozen? ⟨b,j,none⟩=false:=frozen_of_row w b j cs _ h
theorem LW{w:World}{b:Nat}{v0 v1 v2 v3 v4 v5 v6 v7:Value}{T:TypeId}(h:w.heap[b]?=some (.cells #[v0,v1,v2,v3,v4,v5,v6,v7] T (0,0))):
  (w.cell? ⟨b,0,none⟩=some v0/\w.cell? ⟨b,1,none⟩=some v1/\w.cell? ⟨b,2,none⟩=some v2/\w.cell? ⟨b,3,none⟩=some v3/\w.cell? ⟨b,4,none⟩=some v4/\w.cell? ⟨b,5,none⟩=some v5/\w.cell? ⟨b,6,none⟩=some v6/\w.cell? ⟨b,7,none⟩=some v7)/\
  (w.frozen? ⟨b,0,none⟩=false/\w.frozen? ⟨b,1,none⟩=false/\w.frozen? ⟨b,2,none⟩=false/\w.frozen? ⟨b,3,none⟩=false/\w.frozen? ⟨b,4,none⟩=false/\w.frozen? ⟨b,5,none⟩=false/\w.frozen? ⟨b,6,none⟩=false/\w.frozen? ⟨b,7,none⟩=false):=
 ⟨⟨ay h rfl,ay h rfl,ay h rfl,ay h rfl,ay h rfl,ay h rfl,ay h rfl,ay h rfl⟩,aZ h 0,aZ h 1,aZ h 2,aZ h 3,aZ h 4,aZ h 5,aZ h 6,aZ h 7⟩
def Vu(w:World)(b q:Nat)(x:bJ):Prop:= ∀j v,x.cells[j]?=some v->w.cell? ⟨b,q+j,none⟩=some v
theorem Vu.own{S:List Nat}{w w':World}{b q:Nat}{x:bJ}(h:Vu w b q x)(ho:ai S w w')(hb:b<w.heap.size)(hS:b∉S):Vu w' b q x:=fun j v hj=>(ho.cell (p:=⟨b,q+j,none⟩) hb hS).trans (h j v hj)
theorem Vu.all{w:World}{b q:Nat}{nm vs:ByteArray}{hs nu:Bool}{al ty vk vn:Int}(h:Vu w b q ⟨nm,hs,al,ty,nu,vk,vn,vs⟩):
  w.cell? ⟨b,q,none⟩=some (.string nm)/\w.cell? ⟨b,q+1,none⟩=some (.bool hs)/\w.cell? ⟨b,q+2,none⟩=some (.int .u64 al)/\w.cell? ⟨b,q+3,none⟩=some (.int .u32 ty)/\w.cell? ⟨b,q+4,none⟩=some (.bool nu)/\w.cell? ⟨b,q+5,none⟩=some (.int .i64 vk)/\w.cell? ⟨b,q+6,none⟩=some (.int .u64 vn)/\w.cell? ⟨b,q+7,none⟩=some (.string vs):=
 ⟨h 0 _ rfl,h 1 _ rfl,h 2 _ rfl,h 3 _ rfl,h 4 _ rfl,h 5 _ rfl,h 6 _ rfl,h 7 _ rfl⟩
theorem P8{S:List Nat}{w w':World}{b:Nat}{v0 v1 v2 v3 v4 v5 v6 v7:Value}(h:ai S w w')(hb:b∈S\/w.heap.size<=b):ai S w ((((((((w'.setCell ⟨b,0,none⟩ v0).setCell ⟨b,1,none⟩ v1).setCell ⟨b,2,none⟩ v2).setCell ⟨b,3,none⟩ v3).setCell ⟨b,4,none⟩ v4).setCell ⟨b,5,none⟩ v5).setCell ⟨b,6,none⟩ v6).setCell ⟨b,7,none⟩ v7):=
 (((((((h.setCell hb _).setCell hb _).setCell hb _).setCell hb _).setCell hb _).setCell hb _).setCell hb _).setCell hb _
def wI(x y:bJ):Bool:=(x.name==y.name)&&(x.has==y.has)&&(x.al==y.al)&&(x.ty==y.ty)&&(x.null==y.null)&&(x.vk==y.vk)&&(x.vn==y.vn)&&(x.vs==y.vs)
theorem yX(x y:bJ):wI x y=true↔x=y:=by
 obtain⟨a,b,c,d,e,f,g,h⟩:=x;obtain⟨a',b',c',d',e',f',g',h'⟩:=y;simp only[wI,Bool.and_eq_true,beq_iff_eq,bJ.mk.injEq,and_assoc]
theorem AY(x:bJ):wI x x=true:=(yX x x).2 rfl
theorem Ef(x y:bJ)(w:World):(binOp .eql 162 x.val y.val).run Tryz.prog w=.ok (.bool (wI x y)) w:=by
 obtain⟨a,b,c,d,e,f,g,h⟩:=x;obtain⟨a',b',c',d',e',f',g',h'⟩:=y;unfold wI bJ.val bJ.cells;simp only[beq_toListBytes];rw[run_eql_struct];go_simp
 (repeat' split)<;>simp_all
theorem xD(x y:bJ)(w:World):(binOp .neq 162 x.val y.val).run Tryz.prog w=.ok (.bool (!wI x y)) w:=by
 have h:=Ef x y w;unfold bJ.val at h⊢;rw[run_eql_struct]at h;rw[run_neq_struct];generalize(Op.equalIn 10000 162 (.agg x.cells.toArray) (.agg y.cells.toArray)).run Tryz.prog w=r at h⊢;cases r with
 |ok b w'=>simp[Result.andThen]at h⊢;exact h
 |halt e w'=>simp[Result.andThen]at h
def jd:List bJ->List bJ->Bool
 | [],[]=>true
 |x::r,y::r'=>wI x y&&jd r r'
 |_,_=>false
theorem lS: ∀(a b:List bJ),jd a b=true↔a=b
 | [],[]=>by simp[jd]
 | [],_::_=>by simp[jd]
 |_::_,[]=>by simp[jd]
 |x::r,y::r'=>by simp[jd,yX,lS r r']
theorem Eg(a:List bJ):jd a a=true:=(lS a a).2 rfl
theorem Hq{a b:List bJ}(h:a.length≠b.length):jd a b=false:=by
 cases hs:jd a b
 ·rfl
 ·exact absurd (congrArg List.length ((lS a b).1 hs)) h
theorem Hr{a b:List bJ}(hl:a.length=b.length):jd a b=true↔ ∀i,i<a.length->a[i]?=b[i]?:=by
 rw[lS];constructor
 ·rintro rfl i _;rfl
 ·intro h
  apply List.ext_getElem?;intro i;by_cases hi:i<a.length
  ·exact h i hi
  ·rw[List.getElem?_eq_none (by omega),List.getElem?_eq_none (by omega)]
theorem Vv{a b:List bJ}{k:Nat}(h:wI (dU a k) (dU b k)=false):jd a b=false:=by
 cases hs:jd a b
 ·rfl
 ·have:=(lS a b).1 hs
  subst this;rw[AY]at h;cases h
theorem P9{a b:List bJ}(hl:a.length=b.length)(h: ∀j,j<a.length->wI (dU a j) (dU b j)=true):jd a b=true:=by
 rw[Hr hl];intro i hi;rw[oC hi,oC (by omega),(yX _ _).1 (h i hi)]
theorem LX(a1:Option Addr)(L1:List bJ)(c1:Nat)(a2:Option Addr)(L2:List bJ)(c2:Nat)(w:World)(h1:bB w a1 L1)(h2:bB w a2 L2):
  Calls Tryz.prog 32 #[.slice a1 L1.length c1,.slice a2 L2.length c2] w fun e w'=>e=.returned (.bool (jd L1 L2))/\ai [] w w':=by
 have hl1:=h1.1;have hl2:=h2.1;by_cases hn:L1.length=L2.length
 ·generalize hr:jd L1 L2=r
  change Hid _ at hr;replace h1:=af h1;replace h2:=af h2;have hn':L2.length=L1.length:=hn.symm;rw[hn']at hl2⊢;change Hid _ at hn;clear hn';go_enter Tryz.func32,Tryz.ntmps32
  go_wp2_with fail
  go_loopg[5] L1.length (fun g s8 wr=> ∃k:Nat,k<=L1.length/\g=L1.length-k/\s8=.int .i64 k/\ai [] w wr/\Hid (∀j,j<k->wI (dU L1 j) (dU L2 j)=true))
  case atStart=>exact⟨0,by omega,by omega,rfl,ai.refl _ _,af (fun j hj=>by omega)⟩
  case round=>
   obtain⟨k,hk1,rfl,rfl,hO,hN⟩:=hrel;by_cases hlt:k<L1.length
   ·obtain⟨b1,o1,rfl,hb1,_,hc1⟩:=(h1.out.nil' hO).item hlt
    obtain⟨b2,o2,rfl,hb2,_,hc2⟩:=(h2.out.nil' hO).item (show k<L2.length by have:=hn.out;omega);have hq:=fun W=>xD (dU L1 k) (dU L2 k) W
    have hlast: ∀b,wI (dU L1 k) (dU L2 k)=b->if b then(∀j,j<k+1->wI (dU L1 j) (dU L2 j)=true)else r=false:=by
     intro b hb;cases b
     ·simp only[Bool.false_eq_true,if_false]
      rw[<-hr.out];exact Vv hb
     ·simp only[if_true]
      intro j hj;by_cases e:j=k
      ·rw[e];exact hb
      ·exact hN.out j (by omega)
    generalize dU L1 k=x at hc1 hq hlast;generalize dU L2 k=y at hc2 hq hlast;obtain⟨nm,hs,al,ty,nu,vk,vn,vs⟩:=x;obtain⟨Y5,hs',al',ty',nu',vk',vn',vs'⟩:=y;generalize wI _ _=bb at hq hlast;have hlast:=af (hlast bb rfl);obtain⟨d0,d1,d2,d3,d4,d5,d6,d7⟩:=Vu.all hc1;obtain⟨e0,e1,e2,e3,e4,e5,e6,e7⟩:=Vu.all hc2;have q0:(0:Int)<=k:=by omega
    have q1:(k:Int)<L1.length:=by omega
    unfold bJ.val bJ.cells at hq;clear hc1 hc2 hb1 hb2;go_wp2_with fail
    go_quiet(fail)
    cases bb
    ·go_wp2_with fail
     go_ret
     exact⟨by rw[show r=false by simpa using hlast.out];rfl,hO.drewN _⟩
    ·go_wp2_with fail
     go_roundg(L1.length-(k+1))
     case measure=>omega
     case rel=>exact⟨k+1,by omega,rfl,by go_num,hO.drewN _,af (by simpa using hlast.out)⟩
   ·have hrn:r=true:=by
     rw[<-hr.out];exact P9 hn.out (fun j hj=>hN.out j (by omega))
    change Hid _ at hrn;have hge:L1.length<=k:=by omega
    go_wp2_with fail
    go_ret
    exact⟨by rw[hrn.out];rfl,hO⟩
 ·rw[Hq hn]
  have hn1:((L1.length:Int)!=L2.length)=true:=by simpa using(by omega: ¬(L1.length:Int)=L2.length)
  clear hn h1 h2;go_enter Tryz.func32,Tryz.ntmps32
  go_wp2_with fail
  go_ret
  exact⟨rfl,ai.refl _ _⟩
attribute [local go_sem ↓] Go.wp_at_zero Go.wp_at_succ
def LY(m:bW):bJ:=if m.vk=8\/m.vk=9 then⟨m.name,m.has,m.al,m.ty,m.null,m.vk,0,⟨#[]⟩⟩else⟨m.name,m.has,m.al,m.ty,m.null,m.vk,m.vn,m.vs⟩
def jO(k n:Int)(s:ByteArray):Int×ByteArray:=if k=8\/k=9 then(0,⟨#[]⟩)else(n,s)
theorem Zq(m:bW):LY m=⟨m.name,m.has,m.al,m.ty,m.null,m.vk,(jO m.vk m.vn m.vs).1,(jO m.vk m.vn m.vs).2⟩:=by
 unfold LY jO;split<;>rfl
theorem Zr{m:bW}(h:m.wf):(LY m).wf:=by
 obtain⟨h1,h2,h3,h4,h5,h6,h7,h8⟩:=h;unfold LY;split
 ·exact⟨h1,h2,h3,h4,h5,h6,by simp,by simp⟩
 ·exact⟨h1,h2,h3,h4,h5,h6,h7,h8⟩
theorem Qa(m:bW):(LY m).name=m.name:=by unfold LY;split<;>rfl
theorem AZ(k n:Int)(s:ByteArray)(w:World):
  Calls Tryz.prog 329 #[.agg #[.int .i64 k,.int .u64 n,.string s]] w fun e w'=>e=.returned (.agg #[.int .i64 k,.int .u64 (jO k n s).1,.string (jO k n s).2])/\ai [] w w':=by
 have hO:=((ai.refl [] w).alloc (.cells #[.int .i64 k,.int .u64 n,.string s] 105));unfold jO;by_cases h8:k=8
 ·rw[if_pos (Or.inl h8)]
  have e8:((k:Int)==8)=true:=by simpa using h8
  clear h8;go_enter Tryz.func329,Tryz.ntmps329
  go_wp2_with fail
  exact bodyPost_ret (v:=.agg #[.int .i64 k,.int .u64 0,.string ⟨#[]⟩]) (by simp[results,Tryz.results329,go_sem]) rfl ⟨rfl,hO.alloc _⟩
 ·have e8:((k:Int)==8)=false:=by simpa using h8
  by_cases h9:k=9
  ·rw[if_pos (Or.inr h9)]
   have e9:((k:Int)==9)=true:=by simpa using h9
   clear h9 h8;go_enter Tryz.func329,Tryz.ntmps329
   go_wp2_with fail
   exact bodyPost_ret (v:=.agg #[.int .i64 k,.int .u64 0,.string ⟨#[]⟩]) (by simp[results,Tryz.results329,go_sem]) rfl ⟨rfl,hO.alloc _⟩
  ·rw[if_neg (by omega)]
   have e9:((k:Int)==9)=false:=by simpa using h9
   clear h9 h8;go_enter Tryz.func329,Tryz.ntmps329
   go_wp2_with fail
   exact bodyPost_ret (v:=.agg #[.int .i64 k,.int .u64 n,.string s]) (by simp[results,Tryz.results329,go_sem]) rfl ⟨rfl,hO.alloc _⟩
def Ht(m:bW)(w:World)(e:Ending)(w':World):Prop:=e=.returned (LY m).val/\ai [] w w'
theorem yY(m:bW)(w:World):Calls Tryz.prog 324 #[m.val] w (Ht m w):=by
 have hr:=Zq m;unfold Ht;rw[hr];clear hr;obtain⟨nm,hs,al,ti,ty,hi,tr,nu,⟨x1,y1,z1⟩,⟨x2,y2,z2⟩,vk,vn,vs,⟨x3,y3,z3⟩,⟨x4,y4,z4⟩⟩:=m;have hP:=AZ vk vn vs;simp only;generalize jO vk vn vs=r at hP;obtain⟨rn,rs⟩:=r;simp only at hP;change Hid _ at hP;unfold bW.val bW.cells;obtain⟨W1,hW1⟩: ∃W1,W1=(w.alloc (.cells #[.string nm,.bool hs,.int .u64 al,.int .u64 ti,.int .u32 ty,.bool hi,.bool tr,.bool nu,.slice x1 y1 z1,.slice x2 y2 z2,.int .i64 vk,.int .u64 vn,.string vs,.slice x3 y3 z3,.slice x4 y4 z4] 109)).alloc (.cells #[.string ⟨#[]⟩,.bool false,.int .u64 0,.int .u32 0,.bool false,.int .i64 0,.int .u64 0,.string ⟨#[]⟩] 162):=⟨_,rfl⟩;have aL:ai [] w W1:=by rw[hW1];exact((ai.refl [] w).alloc _).alloc _
 have hB0:W1.heap[w.heap.size]?=some (.cells #[.string nm,.bool hs,.int .u64 al,.int .u64 ti,.int .u32 ty,.bool hi,.bool tr,.bool nu,.slice x1 y1 z1,.slice x2 y2 z2,.int .i64 vk,.int .u64 vn,.string vs,.slice x3 y3 z3,.slice x4 y4 z4] 109 (0,0)):=by
  rw[hW1,Below.heap_alloc _ _ _ (by simp)];exact heap_alloc_new _ _
 have hB1:W1.heap[w.heap.size+1]?=some (.cells #[.string ⟨#[]⟩,.bool false,.int .u64 0,.int .u32 0,.bool false,.int .i64 0,.int .u64 0,.string ⟨#[]⟩] 162 (0,0)):=by
  rw[hW1];exact heap_alloc2_new _ _ _
 have c0:=ay hB0 (j:=0) rfl;have c1:=ay hB0 (j:=1) rfl;have c2:=ay hB0 (j:=2) rfl;have c4:=ay hB0 (j:=4) rfl;have c7:=ay hB0 (j:=7) rfl;have c10:=ay hB0 (j:=10) rfl;have c11:=ay hB0 (j:=11) rfl;have c12:=ay hB0 (j:=12) rfl;change Hid _ at hB0 hB1;replace aL:=af aL;go_enter Tryz.func324,Tryz.ntmps324
 go_wp2_with fail
 rw[<-hW1];change Hid _ at hW1;go_region_held3(fun w'=>w'.cell? ⟨w.heap.size,0,none⟩=some (.string nm)/\w'.cell? ⟨w.heap.size,1,none⟩=some (.bool hs)/\w'.cell? ⟨w.heap.size,2,none⟩=some (.int .u64 al)/\w'.cell? ⟨w.heap.size,4,none⟩=some (.int .u32 ty)/\w'.cell? ⟨w.heap.size,7,none⟩=some (.bool nu)/\w'.cell? ⟨w.heap.size,10,none⟩=some (.int .i64 vk)/\w'.cell? ⟨w.heap.size,11,none⟩=some (.int .u64 vn)/\w'.cell? ⟨w.heap.size,12,none⟩=some (.string vs))
  (first|go_keep|(exact⟨ay hB2 (j:=0) rfl,ay hB2 (j:=1) rfl,ay hB2 (j:=2) rfl,ay hB2 (j:=4) rfl,ay hB2 (j:=7) rfl,ay hB2 (j:=10) rfl,ay hB2 (j:=11) rfl,ay hB2 (j:=12) rfl⟩))
  ((go_at_call 329;refine(hP.out _).mono ?_;rintro e w2 ⟨rfl,hO2⟩;have hB2:=hO2.heap (b:=w.heap.size) hB0.out (by simp);have hB3:=hO2.heap (b:=w.heap.size+1) hB1.out (by simp);obtain⟨⟨d0,d1,d2,d3,d4,d5,d6,d7⟩,f0,f1,f2,f3,f4,f5,f6,f7⟩:=LW hB3))
 go_wp2_with fail
 have hO3:ai [] w w2:=(aL.out.drew).trans hO2;exact bodyPost_ret (v:=.agg #[.string nm,.bool hs,.int .u64 al,.int .u32 ty,.bool nu,.int .i64 vk,.int .u64 rn,.string rs]) (by simp[results,Tryz.results324,go_sem,d0,d1,d2,d3,d4,d5,d6,d7]) rfl ⟨rfl,P8 hO3 (.inr (by simp))⟩
def jP(w:World):Prop:=w.cell? ⟨4,0,none⟩=some (.iface 484 (.agg #[.pointer (some ⟨6,331,none⟩)]))
theorem jP.lt{w:World}(h:jP w):4<w.heap.size:=block_lt_of_cell h
theorem jP.own{S:List Nat}{w w':World}(h:jP w)(ho:ai S w w')(hS:4∉S):jP w':=(ho.cell (p:=⟨4,0,none⟩) h.lt hS).trans h
theorem jP.nil{w w':World}(h:jP w)(ho:ai [] w w'):jP w':=h.own ho (by simp)
theorem jQ(c:Int)(w:World):Calls Tryz.prog 322 #[.int .i64 c] w fun e w'=> ∃q,e=.returned (.iface 445 (.pointer (some ⟨q,0,none⟩)))/\w'.heap[q]?=some (.cells #[.int .i64 c] 449 (0,0))/\ai [] w w':=by
 have h1:=heap_alloc_new w (.cells #[.int .i64 c] 449);change Hid _ at h1;go_enter Tryz.func322,Tryz.ntmps322
 go_wp2_with fail
 go_ret
 exact⟨_,rfl,h1.out,(ai.refl _ _).alloc _⟩
theorem Eh(w:World):Calls Tryz.prog 295 #[.nilIface] w fun e w'=>e=.returned (.int .i64 1)/\ai [] w w':=by
 have hO:=(ai.refl [] w).alloc (.cells #[.pointer none] 445);change Hid _ at hO;go_enter Tryz.func295,Tryz.ntmps295
 go_wp2_with fail
 refine(Zt _ _).mono ?_;rintro e w2 ⟨rfl,rfl⟩;go_wp2_with fail
 go_ret
 exact⟨rfl,hO.out⟩
theorem Ei(r:Nat)(c:Int)(w:World)(hE:jP w)(hr:w.heap[r]?=some (.cells #[.int .i64 c] 449 (0,0))):
  Calls Tryz.prog 295 #[.iface 445 (.pointer (some ⟨r,0,none⟩))] w fun e w'=>e=.returned (.int .i64 c)/\ai [] w w':=by
 have hO:=(ai.refl [] w).alloc (.cells #[.pointer none] 445);have A:=Zu ⟨r,0,none⟩ ⟨w.heap.size,0,none⟩ (.pointer none) _ (hE.nil hO) (by simp) (by simp);have hrl:=aj hr;change Hid _ at hr;replace A:=af A;replace hO:=af hO;clear hE;go_enter Tryz.func295,Tryz.ntmps295
 go_wp2_with fail
 refine A.out.mono ?_;rintro e w2 ⟨rfl,hw⟩;have c0:w2.cell? ⟨w.heap.size,0,none⟩=some (.pointer (some ⟨r,0,none⟩)):=by
  rw[hw];exact cell_of_row _ _ 0 _ _ _ (heap_setCell_same _ _ _ _ _ _ (((((ai.refl [] (w.alloc (.cells #[.pointer none] 445))).alloc _).alloc _).alloc _).alloc _ |>.heap (heap_alloc_new w _) (by simp)))
 have hO2:ai [] w w2:=by
  rw[hw];exact(((((hO.out.alloc _).alloc _).alloc _).alloc _).setCell (.inr (Nat.le_refl _)) _)
 have c1:w2.cell? ⟨r,0,none⟩=some (.int .i64 c):=ay (hO2.heap hr.out (by simp)) (j:=0) rfl;change Hid _ at hO2;clear hw A hO hr;go_wp2_with fail
 go_ret
 exact⟨rfl,hO2.out⟩
def jR:List bW->List bJ->Int×List bJ
 | [],out=>(1,out)
 |m::r,out=>if m.name.toList.isEmpty then(7,[])else if(nD out m.name).isSome then(10,[])else jR r (out++[LY m])
def dB(M:List bW):Int×List bJ:=if 32<M.length then(8,[])else jR M []
theorem A7: ∀(M:List bW) (out:List bJ),(jR M out).2.length<=out.length+M.length
 | [],out=>by simp[jR]
 |m::r,out=>by
  unfold jR;split
  ·simp
  ·split
   ·simp
   ·have:=A7 r (out++[LY m])
    simp at this⊢;omega
theorem Ej(M:List bW):(dB M).2.length<=32:=by
 unfold dB;split
 ·simp
 ·have:=A7 M []
  simp at this;omega
theorem A9{w w':World}{row:Option Nat}(h:w.grownBy w' row):ai row.toList w w':=
 ⟨h.os,h.tape,h.output,h.size,fun k hk hn=>h.block k hk (by cases row with|none=>simp|some g=>simpa using hn)⟩
structure aM (B:Nat) (w:World) (a:Option Addr) (cap:Nat) (L:List bJ):Prop where
 own:w.ownsRow 0 162 8 (.slice a L.length cap) L.length (aI bJ.cells L)
 fresh: ∀q,a=some q->B<=q.block
 good: ∀x∈L,x.wf
theorem aM.nil(B:Nat)(w:World):aM B w none 0 []:=⟨⟨by simp[aI],.inl ⟨rfl,rfl⟩⟩,by simp,by simp⟩
theorem aM.at_{B:Nat}{w:World}{a:Option Addr}{cap:Nat}{L:List bJ}(h:aM B w a cap L)(hl:L.length<=140737488351232):bB w a L:=bY.of_owns h.own rfl bJ.cells_len hl h.good
theorem El{S:List Nat}{T:TypeId}{k base n:Nat}{w w':World}{v:Value}{xs:List Value}(h:w.ownsRow base T k v n xs)(ho:ai S w w')(hS: ∀b,v.ownBlock=some b->b∉S):w'.ownsRow base T k v n xs:=by
 obtain⟨h1,h2⟩:=h;refine⟨h1,?_⟩;rcases h2 with h2|⟨g,cap,cur,rfl,hb,hg,h3⟩
 ·exact .inl h2
 ·exact .inr ⟨g,cap,cur,rfl,hb,ho.heap hg (hS g rfl),h3⟩
theorem aM.own'{S:List Nat}{B:Nat}{w w':World}{a:Option Addr}{cap:Nat}{L:List bJ}(h:aM B w a cap L)(ho:ai S w w')(hS: ∀b,a.map (·.block)=some b->b∉S):aM B w' a cap L:=
 ⟨El h.own ho (fun b hb=>hS b (by cases a with|none=>cases hb|some q=>simpa[Value.ownBlock]using hb)),h.fresh,h.good⟩
theorem aM.nil'{B:Nat}{w w':World}{a:Option Addr}{cap:Nat}{L:List bJ}(h:aM B w a cap L)(ho:ai [] w w'):aM B w' a cap L:=h.own' ho (by simp)
theorem aM.push{w0 w1 w4:World}{a:Option Addr}{cap n:Nat}{L:List bJ}{x:bJ}{v2:Value}(h:aM w0.heap.size w1 a cap L)(hx:x.wf)(hn:n=L.length)(hO:ai [] w0 w1)
  (hown2:w4.ownsRow 0 162 8 v2 (n+1) (aI bJ.cells L++x.cells))(hgrow:w1.grownBy w4 (Value.slice a n cap).ownBlock)(hnil:v2=.slice none 0 0↔Value.slice a n cap=.slice none 0 0/\1=0)
  (hat:v2.ownBlock=(Value.slice a n cap).ownBlock\/v2.ownBlock=some w1.heap.size):
  ∃a' cap',v2=.slice a' (n+1) cap'/\aM w0.heap.size w4 a' cap' (L++[x])/\ai [] w0 w4:=by
 subst hn;have e:aI bJ.cells L++x.cells=aI bJ.cells (L++[x]):=by simp[aI]
 rw[e]at hown2;have hl:L.length+1=(L++[x]).length:=by simp
 obtain⟨g,cap',he,hR⟩:=sj hown2 hl (fun e=>by have:=(hnil.1 e).2;omega);subst he;have hO4:ai [] w0 w4:=hO.trans' (A9 hgrow) (by
  intro z hz
  right
  cases a with
  |none=>simp[Value.ownBlock]at hz
  |some q=>simp[Value.ownBlock]at hz;subst hz;exact h.fresh q rfl)
 refine⟨_,cap',by rw[hl],⟨hR.owns bJ.cells_len,?_,?_⟩,hO4⟩
 ·intro q hq
  simp only[Option.some.injEq]at hq;subst hq;show w0.heap.size<=g;have hs:=hO.size;cases a with
  |none=>simp[Value.ownBlock]at hat;omega
  |some q=>
   have:=h.fresh q rfl;simp[Value.ownBlock]at hat;omega
 ·intro y hy
  rcases List.mem_append.1 hy with h1|h1
  ·exact h.good y h1
  ·simp at h1;subst h1;exact hx
theorem Km:(Tryz.prog.info? 162).map (fun i=>(i.zero,i.size,i.bytes))=some (some (.agg #[.string ⟨#[]⟩,.bool false,.int .u64 0,.int .u32 0,.bool false,.int .i64 0,.int .u64 0,.string ⟨#[]⟩]),8,72):=by kernel_rfl
theorem Kn(x:bJ): ∀u∈x.cells,u.oneCell'=true:=by
 intro u hu;simp[bJ.cells]at hu;rcases hu with rfl|rfl|rfl|rfl|rfl|rfl|rfl|rfl<;>rfl
theorem bY.met{w:World}{a:Option Addr}{M:List bW}(h:eF w a M){k:Nat}(hk:k<M.length): ∃b o,a=some ⟨b,o,none⟩/\b<w.heap.size/\M[k].wf/\ ∀j v,M[k].cells[j]?=some v->w.cell? ⟨b,o+k*15+j,none⟩=some v:=by
 obtain⟨b,o,e,hb,hx⟩:=h.2 (by omega);exact⟨b,o,e,hb,hx k _ (List.getElem?_eq_getElem hk)⟩
def Hu(w:World)(b q:Nat)(x:bW):Prop:= ∀j v,x.cells[j]?=some v->w.cell? ⟨b,q+j,none⟩=some v
theorem Hu.own{S:List Nat}{w w':World}{b q:Nat}{x:bW}(h:Hu w b q x)(ho:ai S w w')(hb:b<w.heap.size)(hS:b∉S):Hu w' b q x:=fun j v hj=>(ho.cell (p:=⟨b,q+j,none⟩) hb hS).trans (h j v hj)
def Em(r:Int×List bJ)(w:World)(e:Ending)(w':World):Prop:=
 ∃a cap er,e=.returned (.tuple #[.slice a r.2.length cap,er])/\aM w.heap.size w' a cap r.2/\ai [] w w'/\
  ((r.1=1/\er=.nilIface)\/ ∃q,er=.iface 445 (.pointer (some ⟨q,0,none⟩))/\w'.heap[q]?=some (.cells #[.int .i64 r.1] 449 (0,0)))
theorem Qb(a:Option Addr)(M:List bW)(cap:Nat)(w:World)(h:eF w a M):
  Calls Tryz.prog 294 #[.slice a M.length cap] w (Em (dB M) w):=by
 have hl:=h.1;obtain⟨i0,hi,hz0,hz1,hz2⟩:=info_parts Km;unfold dB;by_cases hn:32<M.length
 ·rw[if_pos hn]
  go_enter Tryz.func294,Tryz.ntmps294
  go_wp2_with fail
  refine(jQ _ _).mono ?_;rintro e w2 ⟨q,rfl,hr,hO⟩;change Hid _ at hr hO;go_wp2_with fail
  go_ret2
  exact⟨none,0,_,rfl,aM.nil _ _,hO.out,.inr ⟨_,rfl,hr.out⟩⟩
 ·rw[if_neg hn]
  generalize hr:jR M []=r;change Hid _ at hr;replace h:=af h;go_enter Tryz.func294,Tryz.ntmps294
  go_wp2_with fail
  go_loopg[4,13] M.length (fun g s4 s13 wr=> ∃(k:Nat) (oa:Option Addr) (oc:Nat) (L:List bJ),k<=M.length/\g=M.length-k/\s13=.int .i64 k/\s4=.slice oa k oc/\L.length=k/\
   Aside (aM w.heap.size wr oa oc L/\ai [] w wr/\jR (M.drop k) L=r))
  case atStart=>exact⟨0,none,0,[],by omega,by omega,rfl,rfl,rfl,aM.nil _ _,ai.refl _ _,hr.out⟩
  case round=>
   obtain⟨k,oa,oc,L,hk,rfl,rfl,rfl,hL,hA⟩:=hrel;obtain⟨hR,hO,hG⟩:=hA;by_cases hlt:k<M.length
   ·obtain⟨b,o,rfl,hb,hwf,hc⟩:=(h.out.nil' hO).met hlt
    rw[List.drop_eq_getElem_cons hlt]at hG;generalize M[k]=x at hc hG hwf;have hxw:=Zr hwf;have hxn:=Qa x;have F:=yY x;unfold Ht at F;generalize hy:LY x=y at F hxw hxn hG;change Hid _ at hy;have OE:=uz L x.name;have hpi:gy L x.name=(match nD L x.name with|some i=>(i:Int)|none=> -1):=rfl;have hP:=fun(w1:World) (aL:ai [] wr w1) (lb:Nat) (hc1:w1.cell? ⟨lb,0,none⟩=some (.slice oa L.length oc))=>AX oa L oc lb x.name w1 (((hR.nil' aL).at_ (by omega))) hc1
    have hown:=fun(w1:World) (aL:ai [] wr w1)=>(hR.nil' aL).own
    rw[hL]at hP hown;obtain⟨nm,hs,al,ti,ty,Ac,tr,nu,⟨x1,y1,z1⟩,⟨x2,y2,z2⟩,vk,vn,vs,⟨x3,y3,z3⟩,⟨x4,y4,z4⟩⟩:=x;have c0:=hc 0 _ rfl;have c1:=hc 1 _ rfl;have c2:=hc 2 _ rfl;have c3:=hc 3 _ rfl;have c4:=hc 4 _ rfl;have c5:=hc 5 _ rfl;have c6:=hc 6 _ rfl;have c7:=hc 7 _ rfl;have c8:=hc 8 _ rfl;have c9:=hc 9 _ rfl;have c10:=hc 10 _ rfl;have c11:=hc 11 _ rfl;have c12:=hc 12 _ rfl;have c13:=hc 13 _ rfl;have c14:=hc 14 _ rfl;simp only[Nat.add_zero]at c0 c1 c2 c3 c4 c5 c6 c7 c8 c9 c10 c11 c12 c13 c14;simp only at OE hP hpi hG;unfold jR at hG;change Hid _ at hG;have Dw:=hO.alloc (.cells #[.string nm,.bool hs,.int .u64 al,.int .u64 ti,.int .u32 ty,.bool Ac,.bool tr,.bool nu,.slice x1 y1 z1,.slice x2 y2 z2,.int .i64 vk,.int .u64 vn,.string vs,.slice x3 y3 z3,.slice x4 y4 z4] 109);have Ga:=(ai.refl [] wr).alloc (.cells #[.string nm,.bool hs,.int .u64 al,.int .u64 ti,.int .u32 ty,.bool Ac,.bool tr,.bool nu,.slice x1 y1 z1,.slice x2 y2 z2,.int .i64 vk,.int .u64 vn,.string vs,.slice x3 y3 z3,.slice x4 y4 z4] 109);have hBm:=heap_alloc_new wr (.cells #[.string nm,.bool hs,.int .u64 al,.int .u64 ti,.int .u32 ty,.bool Ac,.bool tr,.bool nu,.slice x1 y1 z1,.slice x2 y2 z2,.int .i64 vk,.int .u64 vn,.string vs,.slice x3 y3 z3,.slice x4 y4 z4] 109);have XT:=hO.size;unfold bW.val bW.cells at F;simp only at F;change Hid _ at F hP hown hO hBm hxn;replace hR:=af hR;replace Dw:=af Dw;replace Ga:=af Ga;replace hL:=af hL;clear hc hwf;by_cases hne:nm.toList.isEmpty=true
    ·go_wp2_with fail
     refine(jQ _ _).mono ?_;rintro e w2 ⟨q,rfl,hr2,hO2⟩;have Pb:r=(7,[]):=by have:=hG.out;rw[if_pos hne]at this;exact this.symm
     change Hid _ at Pb;have hO3:=Dw.out.trans hO2;change Hid _ at hr2;replace hO3:=af hO3;clear hO2 c0 c1 c2 c3 c4 c5 c6 c7 c8 c9 c10 c11 c12 c13 c14;go_wp2_with fail
     go_ret2
     rw[Pb.out];exact⟨none,0,_,rfl,aM.nil _ _,hO3.out,.inr ⟨_,rfl,hr2.out⟩⟩
    ·have hne':nm.toList.isEmpty=false:=by simpa using hne
     replace hG:=af (by have:=hG.out;rw[if_neg hne]at this;exact this);clear hne;go_wp2_with fail
     refine(hP.out _ (Ga.out.alloc _) _ (by simp)).mono ?_;rintro e w2 ⟨rfl,hO2⟩;have hO3:=(Dw.out.alloc (.cells #[.slice oa k oc] 35)).trans hO2;have Au:=(Ga.out.alloc (.cells #[.slice oa k oc] 35)).trans hO2;have hB3:=((ai.refl [] _).alloc (.cells #[.slice oa k oc] 35)).trans hO2 |>.heap hBm.out (by simp);cases hidx:nD L nm with
     |some i=>
      have hpv:gy L nm=i:=by rw[hpi,hidx]
      have JU:r=(10,[]):=by have:=hG.out;rw[hidx]at this;simpa using this.symm
      rw[hpv];change Hid _ at JU;replace hO3:=af hO3;clear hpv hpi OE hG hidx Au hB3 hO2 c0 c1 c2 c3 c4 c5 c6 c7 c8 c9 c10 c11 c12 c13 c14;go_wp2_with fail
      refine(jQ _ _).mono ?_;rintro e w3 ⟨q,rfl,hr2,hO4⟩;change Hid _ at hr2;replace hO4:=af (hO3.out.trans hO4);go_wp2_with fail
      go_ret2
      rw[JU.out];exact⟨none,0,_,rfl,aM.nil _ _,hO4.out,.inr ⟨_,rfl,hr2.out⟩⟩
     |none=>
      have hpv:gy L nm= -1:=by rw[hpi,hidx]
      have hG2:jR (M.drop (k+1)) (L++[y])=r:=by have:=hG.out;rw[hidx]at this;simpa[hy.out]using this
      rw[hpv];change Hid _ at hG2;have d0:=ay hB3 (j:=0) rfl;have d1:=ay hB3 (j:=1) rfl;have d2:=ay hB3 (j:=2) rfl;have d3:=ay hB3 (j:=3) rfl;have d4:=ay hB3 (j:=4) rfl;have d5:=ay hB3 (j:=5) rfl;have d6:=ay hB3 (j:=6) rfl;have d7:=ay hB3 (j:=7) rfl;have d8:=ay hB3 (j:=8) rfl;have d9:=ay hB3 (j:=9) rfl;have Av:=ay hB3 (j:=10) rfl;have BQ:=ay hB3 (j:=11) rfl;have BR:=ay hB3 (j:=12) rfl;have Dl:=ay hB3 (j:=13) rfl;have d14:=ay hB3 (j:=14) rfl;replace hO3:=af hO3;replace Au:=af Au;clear hpv hpi OE hG hidx hB3 hO2 c0 c1 c2 c3 c4 c5 c6 c7 c8 c9 c10 c11 c12 c13 c14;go_wp2_with fail
      refine(F.out _).mono ?_;rintro e w3 ⟨rfl,hO4⟩;have aF:=hO3.out.trans hO4;have Ux:=Au.out.trans hO4;replace aF:=af aF;replace Ux:=af Ux;obtain⟨Y5,hs',al',ty',nu',vk',vn',vs'⟩:=y;unfold bJ.val;have hA1:=(ai.refl [] w3).alloc (.cells #[.string Y5,.bool hs',.int .u64 al',.int .u32 ty',.bool nu',.int .i64 vk',.int .u64 vn',.string vs'] 162);have aco:=af (hown.out _ (Ux.out.trans hA1));have uU:=af (hR.out.nil' (Ux.out.trans hA1));have XU:=af (aF.out.trans hA1);have hnew:=af (World.news_of_block (heap_alloc_new w3 (.cells #[.string Y5,.bool hs',.int .u64 al',.int .u32 ty',.bool nu',.int .i64 vk',.int .u64 vn',.string vs'] 162)));have hone:=af (Kn ⟨Y5,hs',al',ty',nu',vk',vn',vs'⟩);unfold bJ.cells;clear d0 d1 d2 d3 d4 d5 d6 d7 d8 d9 Av BQ BR Dl d14 hO4 hA1 aF Ux Au hO3;go_wp2_with(at_builtin;refine wpList_append_own_at _ rfl (.tmp 30) (.tmp 33) 35 rfl 0 162 i0 _ 8 72 Tryz.underlying35 hi hz0 hz1 hz2 rfl (by omega) (.slice oa k oc) k (aI bJ.cells L) rfl aco.out ⟨w3.heap.size,0,none⟩ 1 1 [.string Y5,.bool hs',.int .u64 al',.int .u32 ty',.bool nu',.int .i64 vk',.int .u64 vn',.string vs'] rfl rfl hnew.out hone.out (by unfold maxLen;omega) (by omega) (Nat.zero_le _) ?_;intro v2 w4 hown2 hgrow hnil hat;obtain⟨a2,cap2,rfl,hR2,hO2⟩:=aM.push uU.out hxw hL.out.symm XU.out hown2 hgrow hnil hat;clear hown2 hgrow hnil hat;replace hR2:=af hR2;replace hO2:=af hO2)
      go_roundg(M.length-(k+1))
      case measure=>omega
      case rel=>exact⟨k+1,a2,cap2,_,by omega,rfl,by go_num,rfl,by have:=hL.out;simp[this],hR2.out,hO2.out,hG2.out⟩
   ·obtain rfl:k=M.length:=by omega
    rw[List.drop_eq_nil_of_le (Nat.le_refl _)]at hG;have hr1:r=(1,L):=by unfold jR at hG;exact hG.symm
    change Hid _ at hr1 hO;replace hR:=af hR;replace hL:=af hL;clear hG;go_wp2_with fail
    go_ret2
    rw[hr1.out];exact⟨oa,oc,_,by simp only[hL.out];rfl,hR.out,hO.out,.inl ⟨rfl,rfl⟩⟩
end Go.Proofs.YtedcakchekaemaaGreatDoor
