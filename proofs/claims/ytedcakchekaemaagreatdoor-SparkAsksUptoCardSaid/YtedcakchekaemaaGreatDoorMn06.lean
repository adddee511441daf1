import Derived.Test.YtedcakchekaemaaGreatDoorMn02
import Derived.Deep.RegionHeld3
import Derived.Deep.DrawnRows
import Derived.Test.YtedcakchekaemaaGreatDoorMn04
set_option maxRecDepth 100000
set_option maxHeartbeats 16000000
set_option linter.all false
namespace Go.Proofs.YtedcakchekaemaaGreatDoor
open Go.RowKit
theorem ax{w:World}{b:Nat}{cs:Array Value}{T:TypeId}(h:w.heap[b]?=some (.cells cs T (0,0))){j:Nat}{v:Value}(hv:cs[j]?=some v):w.cell? ⟨b,j,none⟩=some v:=(cell_of_row w b j cs _ _ h).trans hv
theorem aV{w:World}{b:Nat}{cs:Array Value}{T:TypeId}(h:w.heap[b]?=some (.cells cs T (0,0)))(j:Nat):w.frozen? ⟨b,j,none⟩=false:=frozen_of_row w b j cs _ h
theorem JZ{w:World}{b:Nat}{v0 v1 v2 v3 v4 v5 v6 v7:Value}{T:TypeId}(h:w.heap[b]?=some (.cells #[v0,v1,v2,v3,v4,v5,v6,v7] T (0,0))):
  (w.cell? ⟨b,0,none⟩=some v0/\w.cell? ⟨b,1,none⟩=some v1/\w.cell? ⟨b,2,none⟩=some v2/\w.cell? ⟨b,3,none⟩=some v3/\w.cell? ⟨b,4,none⟩=some v4/\w.cell? ⟨b,5,none⟩=some v5/\w.cell? ⟨b,6,none⟩=some v6/\w.cell? ⟨b,7,none⟩=some v7)/\
  (w.frozen? ⟨b,0,none⟩=false/\w.frozen? ⟨b,1,none⟩=false/\w.frozen? ⟨b,2,none⟩=false/\w.frozen? ⟨b,3,none⟩=false/\w.frozen? ⟨b,4,none⟩=false/\w.frozen? ⟨b,5,none⟩=false/\w.frozen? ⟨b,6,none⟩=false/\w.frozen? ⟨b,7,none⟩=false):=
 ⟨⟨ax h rfl,ax h rfl,ax h rfl,ax h rfl,ax h rfl,ax h rfl,ax h rfl,ax h rfl⟩,aV h 0,aV h 1,aV h 2,aV h 3,aV h 4,aV h 5,aV h 6,aV h 7⟩
def Ry(w:World)(b q:Nat)(x:bD):Prop:= ∀j v,x.cells[j]?=some v->w.cell? ⟨b,q+j,none⟩=some v
theorem Ry.own{S:List Nat}{w w':World}{b q:Nat}{x:bD}(h:Ry w b q x)(ho:ai S w w')(hb:b<w.heap.size)(hS:b∉S):Ry w' b q x:=fun j v hj=>(ho.cell (p:=⟨b,q+j,none⟩) hb hS).trans (h j v hj)
theorem Ry.all{w:World}{b q:Nat}{nm vs:ByteArray}{hs nu:Bool}{al ty vk vn:Int}(h:Ry w b q ⟨nm,hs,al,ty,nu,vk,vn,vs⟩):
  w.cell? ⟨b,q,none⟩=some (.string nm)/\w.cell? ⟨b,q+1,none⟩=some (.bool hs)/\w.cell? ⟨b,q+2,none⟩=some (.int .u64 al)/\w.cell? ⟨b,q+3,none⟩=some (.int .u32 ty)/\w.cell? ⟨b,q+4,none⟩=some (.bool nu)/\w.cell? ⟨b,q+5,none⟩=some (.int .i64 vk)/\w.cell? ⟨b,q+6,none⟩=some (.int .u64 vn)/\w.cell? ⟨b,q+7,none⟩=some (.string vs):=
 ⟨h 0 _ rfl,h 1 _ rfl,h 2 _ rfl,h 3 _ rfl,h 4 _ rfl,h 5 _ rfl,h 6 _ rfl,h 7 _ rfl⟩
theorem NI{S:List Nat}{w w':World}{b:Nat}{v0 v1 v2 v3 v4 v5 v6 v7:Value}(h:ai S w w')(hb:b∈S\/w.heap.size<=b):ai S w ((((((((w'.setCell ⟨b,0,none⟩ v0).setCell ⟨b,1,none⟩ v1).setCell ⟨b,2,none⟩ v2).setCell ⟨b,3,none⟩ v3).setCell ⟨b,4,none⟩ v4).setCell ⟨b,5,none⟩ v5).setCell ⟨b,6,none⟩ v6).setCell ⟨b,7,none⟩ v7):=
 (((((((h.setCell hb _).setCell hb _).setCell hb _).setCell hb _).setCell hb _).setCell hb _).setCell hb _).setCell hb _
def uK(x y:bD):Bool:=(x.name==y.name)&&(x.has==y.has)&&(x.al==y.al)&&(x.ty==y.ty)&&(x.null==y.null)&&(x.vk==y.vk)&&(x.vn==y.vn)&&(x.vs==y.vs)
theorem xq(x y:bD):uK x y=true↔x=y:=by
 obtain⟨a,b,c,d,e,f,g,h⟩:=x;obtain⟨a',b',c',d',e',f',g',h'⟩:=y;simp only[uK,Bool.and_eq_true,beq_iff_eq,bD.mk.injEq,and_assoc]
theorem zC(x:bD):uK x x=true:=(xq x x).2 rfl
theorem Cv(x y:bD)(w:World):(binOp .eql 162 x.val y.val).run Tryz.prog w=.ok (.bool (uK x y)) w:=by
 obtain⟨a,b,c,d,e,f,g,h⟩:=x;obtain⟨a',b',c',d',e',f',g',h'⟩:=y;unfold uK bD.val bD.cells;simp only[beq_toListBytes];rw[run_eql_struct];go_simp
 (repeat' split)<;>simp_all
theorem vF(x y:bD)(w:World):(binOp .neq 162 x.val y.val).run Tryz.prog w=.ok (.bool (!uK x y)) w:=by
 have h:=Cv x y w;unfold bD.val at h⊢;rw[run_eql_struct]at h;rw[run_neq_struct];generalize(Op.equalIn 10000 162 (.agg x.cells.toArray) (.agg y.cells.toArray)).run Tryz.prog w=r at h⊢;cases r with
 |ok b w'=>simp[Result.andThen]at h⊢;exact h
 |halt e w'=>simp[Result.andThen]at h
def iI:List bD->List bD->Bool
 | [],[]=>true
 |x::r,y::r'=>uK x y&&iI r r'
 |_,_=>false
theorem kK: ∀(a b:List bD),iI a b=true↔a=b
 | [],[]=>by simp[iI]
 | [],_::_=>by simp[iI]
 |_::_,[]=>by simp[iI]
 |x::r,y::r'=>by simp[iI,xq,kK r r']
theorem Cw(a:List bD):iI a a=true:=(kK a a).2 rfl
theorem Fw{a b:List bD}(h:a.length≠b.length):iI a b=false:=by
 cases hs:iI a b
 ·rfl
 ·exact absurd (congrArg List.length ((kK a b).1 hs)) h
theorem Fx{a b:List bD}(hl:a.length=b.length):iI a b=true↔ ∀i,i<a.length->a[i]?=b[i]?:=by
 rw[kK];constructor
 ·rintro rfl i _;rfl
 ·intro h
  apply List.ext_getElem?;intro i;by_cases hi:i<a.length
  ·exact h i hi
  ·rw[List.getElem?_eq_none (by omega),List.getElem?_eq_none (by omega)]
theorem Rz{a b:List bD}{k:Nat}(h:uK (dJ a k) (dJ b k)=false):iI a b=false:=by
 cases hs:iI a b
 ·rfl
 ·have:=(kK a b).1 hs
  subst this;rw[zC]at h;cases h
theorem NJ{a b:List bD}(hl:a.length=b.length)(h: ∀j,j<a.length->uK (dJ a j) (dJ b j)=true):iI a b=true:=by
 rw[Fx hl];intro i hi;rw[nk hi,nk (by omega),(xq _ _).1 (h i hi)]
theorem J4(a1:Option Addr)(L1:List bD)(c1:Nat)(a2:Option Addr)(L2:List bD)(c2:Nat)(w:World)(h1:aY w a1 L1)(h2:aY w a2 L2):
  Calls Tryz.prog 32 #[.slice a1 L1.length c1,.slice a2 L2.length c2] w fun e w'=>e=.returned (.bool (iI L1 L2))/\ai [] w w':=by
 have hl1:=h1.1;have hl2:=h2.1;by_cases hn:L1.length=L2.length
 ·generalize hr:iI L1 L2=r
  change Hid _ at hr;replace h1:=af h1;replace h2:=af h2;have hn':L2.length=L1.length:=hn.symm;rw[hn']at hl2⊢;change Hid _ at hn;clear hn';go_enter Tryz.func32,Tryz.ntmps32
  go_wp2_with fail
  go_loopg[5] L1.length (fun g s8 wr=> ∃k:Nat,k<=L1.length/\g=L1.length-k/\s8=.int .i64 k/\ai [] w wr/\Hid (∀j,j<k->uK (dJ L1 j) (dJ L2 j)=true))
  case atStart=>exact⟨0,by omega,by omega,rfl,ai.refl _ _,af (fun j hj=>by omega)⟩
  case round=>
   obtain⟨k,hk1,rfl,rfl,hO,hN⟩:=hrel;by_cases hlt:k<L1.length
   ·obtain⟨b1,o1,rfl,hb1,_,hc1⟩:=(h1.out.nil' hO).item hlt
    obtain⟨b2,o2,rfl,hb2,_,hc2⟩:=(h2.out.nil' hO).item (show k<L2.length by have:=hn.out;omega);have hq:=fun W=>vF (dJ L1 k) (dJ L2 k) W
    have hlast: ∀b,uK (dJ L1 k) (dJ L2 k)=b->if b then(∀j,j<k+1->uK (dJ L1 j) (dJ L2 j)=true)else r=false:=by
     intro b hb;cases b
     ·simp only[Bool.false_eq_true,if_false]
      rw[<-hr.out];exact Rz hb
     ·simp only[if_true]
      intro j hj;by_cases e:j=k
      ·rw[e];exact hb
      ·exact hN.out j (by omega)
    generalize dJ L1 k=x at hc1 hq hlast;generalize dJ L2 k=y at hc2 hq hlast;obtain⟨nm,hs,al,ty,nu,vk,vn,vs⟩:=x;obtain⟨WB,hs',al',ty',WC,WE,WG,vs'⟩:=y;generalize uK _ _=bb at hq hlast;have hlast:=af (hlast bb rfl);obtain⟨d0,d1,d2,d3,d4,d5,d6,d7⟩:=Ry.all hc1;obtain⟨e0,e1,e2,e3,e4,e5,e6,e7⟩:=Ry.all hc2;have q0:(0:Int)<=k:=by omega
    have q1:(k:Int)<L1.length:=by omega
    unfold bD.val bD.cells at hq;clear hc1 hc2 hb1 hb2;go_wp2_with fail
    go_quiet(fail)
    cases bb
    ·go_wp2_with fail
     go_ret
     exact⟨by rw[show r=false by simpa using hlast.out];rfl,hO.drewN _⟩
    ·go_wp2_with fail
     go_roundg(L1.length-(k+1))
     case measure=>omega
     case rel=>exact⟨k+1,by omega,rfl,by go_num,hO.drewN _,af (by simpa using hlast.out)⟩
   ·have hrn:r=true:=by
     rw[<-hr.out];exact NJ hn.out (fun j hj=>hN.out j (by omega))
    change Hid _ at hrn;have hge:L1.length<=k:=by omega
    go_wp2_with fail
    go_ret
    exact⟨by rw[hrn.out];rfl,hO⟩
 ·rw[Fw hn]
  have hn1:((L1.length:Int)!=L2.length)=true:=by simpa using(by omega: ¬(L1.length:Int)=L2.length)
  clear hn h1 h2;go_enter Tryz.func32,Tryz.ntmps32
  go_wp2_with fail
  go_ret
  exact⟨rfl,ai.refl _ _⟩
attribute [local go_sem ↓] Go.wp_at_zero Go.wp_at_succ
def J5(m:bP):bD:=if m.vk=8\/m.vk=9 then⟨m.name,m.has,m.al,m.ty,m.null,m.vk,0,⟨#[]⟩⟩else⟨m.name,m.has,m.al,m.ty,m.null,m.vk,m.vn,m.vs⟩
def jl(k n:Int)(s:ByteArray):Int×ByteArray:=if k=8\/k=9 then(0,⟨#[]⟩)else(n,s)
theorem Vz(m:bP):J5 m=⟨m.name,m.has,m.al,m.ty,m.null,m.vk,(jl m.vk m.vn m.vs).1,(jl m.vk m.vn m.vs).2⟩:=by
 unfold J5 jl;split<;>rfl
theorem VA{m:bP}(h:m.wf):(J5 m).wf:=by
 obtain⟨h1,h2,h3,h4,h5,h6,h7,h8⟩:=h;unfold J5;split
 ·exact⟨h1,h2,h3,h4,h5,h6,by simp,by simp⟩
 ·exact⟨h1,h2,h3,h4,h5,h6,h7,h8⟩
theorem NK(m:bP):(J5 m).name=m.name:=by unfold J5;split<;>rfl
theorem zD(k n:Int)(s:ByteArray)(w:World):
  Calls Tryz.prog 329 #[.agg #[.int .i64 k,.int .u64 n,.string s]] w fun e w'=>e=.returned (.agg #[.int .i64 k,.int .u64 (jl k n s).1,.string (jl k n s).2])/\ai [] w w':=by
 have hO:=((ai.refl [] w).alloc (.cells #[.int .i64 k,.int .u64 n,.string s] 105));unfold jl;by_cases h8:k=8
 ·rw[if_pos (Or.inl h8)]
  have e8:((k:Int)==8)=true:=by simpa using h8
  clear h8;go_enter Tryz.func329,Tryz.ntmps329
  go_wp2_with fail
  exact bodyPost_ret (v:=.agg #[.int .i64 k,.int .u64 0,.string ⟨#[]⟩]) (by simp[results,Tryz.results329,go_sem]) rfl ⟨rfl,hO.alloc _⟩
 ·have e8:((k:Int)==8)=false:=by simpa using h8
  by_cases h9:k=9
  ·rw[if_pos (Or.inr h9)]
   have e9:((k:Int)==9)=true:=by simpa using h9
   clear h9 h8;go_enter Tryz.func329,Tryz.ntmps329
   go_wp2_with fail
   exact bodyPost_ret (v:=.agg #[.int .i64 k,.int .u64 0,.string ⟨#[]⟩]) (by simp[results,Tryz.results329,go_sem]) rfl ⟨rfl,hO.alloc _⟩
  ·rw[if_neg (by omega)]
   have e9:((k:Int)==9)=false:=by simpa using h9
   clear h9 h8;go_enter Tryz.func329,Tryz.ntmps329
   go_wp2_with fail
   exact bodyPost_ret (v:=.agg #[.int .i64 k,.int .u64 n,.string s]) (by simp[results,Tryz.results329,go_sem]) rfl ⟨rfl,hO.alloc _⟩
def Fy(m:bP)(w:World)(e:Ending)(w':World):Prop:=e=.returned (J5 m).val/\ai [] w w'
theorem xu(m:bP)(w:World):Calls Tryz.prog 324 #[m.val] w (Fy m w):=by
 have hr:=Vz m;unfold Fy;rw[hr];clear hr;obtain⟨nm,hs,al,ti,ty,hi,tr,nu,⟨x1,y1,z1⟩,⟨x2,y2,z2⟩,vk,vn,vs,⟨x3,y3,z3⟩,⟨x4,y4,z4⟩⟩:=m;have hP:=zD vk vn vs;simp only;generalize jl vk vn vs=r at hP;obtain⟨rn,rs⟩:=r;simp only at hP;change Hid _ at hP;unfold bP.val bP.cells;obtain⟨W1,hW1⟩: ∃W1,W1=(w.alloc (.cells #[.string nm,.bool hs,.int .u64 al,.int .u64 ti,.int .u32 ty,.bool hi,.bool tr,.bool nu,.slice x1 y1 z1,.slice x2 y2 z2,.int .i64 vk,.int .u64 vn,.string vs,.slice x3 y3 z3,.slice x4 y4 z4] 109)).alloc (.cells #[.string ⟨#[]⟩,.bool false,.int .u64 0,.int .u32 0,.bool false,.int .i64 0,.int .u64 0,.string ⟨#[]⟩] 162):=⟨_,rfl⟩;have aH:ai [] w W1:=by rw[hW1];exact((ai.refl [] w).alloc _).alloc _
 have hB0:W1.heap[w.heap.size]?=some (.cells #[.string nm,.bool hs,.int .u64 al,.int .u64 ti,.int .u32 ty,.bool hi,.bool tr,.bool nu,.slice x1 y1 z1,.slice x2 y2 z2,.int .i64 vk,.int .u64 vn,.string vs,.slice x3 y3 z3,.slice x4 y4 z4] 109 (0,0)):=by
  rw[hW1,Below.heap_alloc _ _ _ (by simp)];exact heap_alloc_new _ _
 have hB1:W1.heap[w.heap.size+1]?=some (.cells #[.string ⟨#[]⟩,.bool false,.int .u64 0,.int .u32 0,.bool false,.int .i64 0,.int .u64 0,.string ⟨#[]⟩] 162 (0,0)):=by
  rw[hW1];exact heap_alloc2_new _ _ _
 have c0:=ax hB0 (j:=0) rfl;have c1:=ax hB0 (j:=1) rfl;have c2:=ax hB0 (j:=2) rfl;have c4:=ax hB0 (j:=4) rfl;have c7:=ax hB0 (j:=7) rfl;have c10:=ax hB0 (j:=10) rfl;have c11:=ax hB0 (j:=11) rfl;have c12:=ax hB0 (j:=12) rfl;change Hid _ at hB0 hB1;replace aH:=af aH;go_enter Tryz.func324,Tryz.ntmps324
 go_wp2_with fail
 rw[<-hW1];change Hid _ at hW1;go_region_held3(fun w'=>w'.cell? ⟨w.heap.size,0,none⟩=some (.string nm)/\w'.cell? ⟨w.heap.size,1,none⟩=some (.bool hs)/\w'.cell? ⟨w.heap.size,2,none⟩=some (.int .u64 al)/\w'.cell? ⟨w.heap.size,4,none⟩=some (.int .u32 ty)/\w'.cell? ⟨w.heap.size,7,none⟩=some (.bool nu)/\w'.cell? ⟨w.heap.size,10,none⟩=some (.int .i64 vk)/\w'.cell? ⟨w.heap.size,11,none⟩=some (.int .u64 vn)/\w'.cell? ⟨w.heap.size,12,none⟩=some (.string vs))
  (first|go_keep|(exact⟨ax hB2 (j:=0) rfl,ax hB2 (j:=1) rfl,ax hB2 (j:=2) rfl,ax hB2 (j:=4) rfl,ax hB2 (j:=7) rfl,ax hB2 (j:=10) rfl,ax hB2 (j:=11) rfl,ax hB2 (j:=12) rfl⟩))
  ((go_at_call 329;refine(hP.out _).mono ?_;rintro e w2 ⟨rfl,hO2⟩;have hB2:=hO2.heap (b:=w.heap.size) hB0.out (by simp);have hB3:=hO2.heap (b:=w.heap.size+1) hB1.out (by simp);obtain⟨⟨d0,d1,d2,d3,d4,d5,d6,d7⟩,f0,f1,f2,f3,f4,f5,f6,f7⟩:=JZ hB3))
 go_wp2_with fail
 have hO3:ai [] w w2:=(aH.out.drew).trans hO2;exact bodyPost_ret (v:=.agg #[.string nm,.bool hs,.int .u64 al,.int .u32 ty,.bool nu,.int .i64 vk,.int .u64 rn,.string rs]) (by simp[results,Tryz.results324,go_sem,d0,d1,d2,d3,d4,d5,d6,d7]) rfl ⟨rfl,NI hO3 (.inr (by simp))⟩
def jm(w:World):Prop:=w.cell? ⟨4,0,none⟩=some (.iface 484 (.agg #[.pointer (some ⟨6,331,none⟩)]))
theorem jm.lt{w:World}(h:jm w):4<w.heap.size:=block_lt_of_cell h
theorem jm.own{S:List Nat}{w w':World}(h:jm w)(ho:ai S w w')(hS:4∉S):jm w':=(ho.cell (p:=⟨4,0,none⟩) h.lt hS).trans h
theorem jm.nil{w w':World}(h:jm w)(ho:ai [] w w'):jm w':=h.own ho (by simp)
theorem jo(c:Int)(w:World):Calls Tryz.prog 322 #[.int .i64 c] w fun e w'=> ∃q,e=.returned (.iface 445 (.pointer (some ⟨q,0,none⟩)))/\w'.heap[q]?=some (.cells #[.int .i64 c] 449 (0,0))/\ai [] w w':=by
 have h1:=heap_alloc_new w (.cells #[.int .i64 c] 449);change Hid _ at h1;go_enter Tryz.func322,Tryz.ntmps322
 go_wp2_with fail
 go_ret
 exact⟨_,rfl,h1.out,(ai.refl _ _).alloc _⟩
theorem Cx(w:World):Calls Tryz.prog 295 #[.nilIface] w fun e w'=>e=.returned (.int .i64 1)/\ai [] w w':=by
 have hO:=(ai.refl [] w).alloc (.cells #[.pointer none] 445);change Hid _ at hO;go_enter Tryz.func295,Tryz.ntmps295
 go_wp2_with fail
 refine(VB _ _).mono ?_;rintro e w2 ⟨rfl,rfl⟩;go_wp2_with fail
 go_ret
 exact⟨rfl,hO.out⟩
theorem Cy(r:Nat)(c:Int)(w:World)(hE:jm w)(hr:w.heap[r]?=some (.cells #[.int .i64 c] 449 (0,0))):
  Calls Tryz.prog 295 #[.iface 445 (.pointer (some ⟨r,0,none⟩))] w fun e w'=>e=.returned (.int .i64 c)/\ai [] w w':=by
 have hO:=(ai.refl [] w).alloc (.cells #[.pointer none] 445);have A:=VD ⟨r,0,none⟩ ⟨w.heap.size,0,none⟩ (.pointer none) _ (hE.nil hO) (by simp) (by simp);have hrl:=aj hr;change Hid _ at hr;replace A:=af A;replace hO:=af hO;clear hE;go_enter Tryz.func295,Tryz.ntmps295
 go_wp2_with fail
 refine A.out.mono ?_;rintro e w2 ⟨rfl,hw⟩;have c0:w2.cell? ⟨w.heap.size,0,none⟩=some (.pointer (some ⟨r,0,none⟩)):=by
  rw[hw];exact cell_of_row _ _ 0 _ _ _ (heap_setCell_same _ _ _ _ _ _ (((((ai.refl [] (w.alloc (.cells #[.pointer none] 445))).alloc _).alloc _).alloc _).alloc _ |>.heap (heap_alloc_new w _) (by simp)))
 have hO2:ai [] w w2:=by
  rw[hw];exact(((((hO.out.alloc _).alloc _).alloc _).alloc _).setCell (.inr (Nat.le_refl _)) _)
 have c1:w2.cell? ⟨r,0,none⟩=some (.int .i64 c):=ax (hO2.heap hr.out (by simp)) (j:=0) rfl;change Hid _ at hO2;clear hw A hO hr;go_wp2_with fail
 go_ret
 exact⟨rfl,hO2.out⟩
def jq:List bP->List bD->Int×List bD
 | [],out=>(1,out)
 |m::r,out=>if m.name.toList.isEmpty then(7,[])else if(lM out m.name).isSome then(10,[])else jq r (out++[J5 m])
def dx(M:List bP):Int×List bD:=if 32<M.length then(8,[])else jq M []
theorem zF: ∀(M:List bP) (out:List bD),(jq M out).2.length<=out.length+M.length
 | [],out=>by simp[jq]
 |m::r,out=>by
  unfold jq;split
  ·simp
  ·split
   ·simp
   ·have:=zF r (out++[J5 m])
    simp at this⊢;omega
theorem Cz(M:List bP):(dx M).2.length<=32:=by
 unfold dx;split
 ·simp
 ·have:=zF M []
  simp at this;omega
theorem zG{w w':World}{row:Option Nat}(h:w.grownBy w' row):ai row.toList w w':=
 ⟨h.os,h.tape,h.output,h.size,fun k hk hn=>h.block k hk (by cases row with|none=>simp|some g=>simpa using hn)⟩
structure aI (B:Nat) (w:World) (a:Option Addr) (cap:Nat) (L:List bD):Prop where
 own:w.ownsRow 0 162 8 (.slice a L.length cap) L.length (aC bD.cells L)
 fresh: ∀q,a=some q->B<=q.block
 good: ∀x∈L,x.wf
theorem aI.nil(B:Nat)(w:World):aI B w none 0 []:=⟨⟨by simp[aC],.inl ⟨rfl,rfl⟩⟩,by simp,by simp⟩
theorem aI.at_{B:Nat}{w:World}{a:Option Addr}{cap:Nat}{L:List bD}(h:aI B w a cap L)(hl:L.length<=140737488351232):aY w a L:=bR.of_owns h.own rfl bD.cells_len hl h.good
theorem CB{S:List Nat}{T:TypeId}{k base n:Nat}{w w':World}{v:Value}{xs:List Value}(h:w.ownsRow base T k v n xs)(ho:ai S w w')(hS: ∀b,v.ownBlock=some b->b∉S):w'.ownsRow base T k v n xs:=by
 obtain⟨h1,h2⟩:=h;refine⟨h1,?_⟩;rcases h2 with h2|⟨g,cap,cur,rfl,hb,hg,h3⟩
 ·exact .inl h2
 ·exact .inr ⟨g,cap,cur,rfl,hb,ho.heap hg (hS g rfl),h3⟩
theorem aI.own'{S:List Nat}{B:Nat}{w w':World}{a:Option Addr}{cap:Nat}{L:List bD}(h:aI B w a cap L)(ho:ai S w w')(hS: ∀b,a.map (·.block)=some b->b∉S):aI B w' a cap L:=
 ⟨CB h.own ho (fun b hb=>hS b (by cases a with|none=>cases hb|some q=>simpa[Value.ownBlock]using hb)),h.fresh,h.good⟩
theorem aI.nil'{B:Nat}{w w':World}{a:Option Addr}{cap:Nat}{L:List bD}(h:aI B w a cap L)(ho:ai [] w w'):aI B w' a cap L:=h.own' ho (by simp)
theorem aI.push{w0 w1 w4:World}{a:Option Addr}{cap n:Nat}{L:List bD}{x:bD}{v2:Value}(h:aI w0.heap.size w1 a cap L)(hx:x.wf)(hn:n=L.length)(hO:ai [] w0 w1)
  (hown2:w4.ownsRow 0 162 8 v2 (n+1) (aC bD.cells L++x.cells))(hgrow:w1.grownBy w4 (Value.slice a n cap).ownBlock)(hnil:v2=.slice none 0 0↔Value.slice a n cap=.slice none 0 0/\1=0)
  (hat:v2.ownBlock=(Value.slice a n cap).ownBlock\/v2.ownBlock=some w1.heap.size):
  ∃a' cap',v2=.slice a' (n+1) cap'/\aI w0.heap.size w4 a' cap' (L++[x])/\ai [] w0 w4:=by
 subst hn;have e:aC bD.cells L++x.cells=aC bD.cells (L++[x]):=by simp[aC]
 rw[e]at hown2;have hl:L.length+1=(L++[x]).length:=by simp
 obtain⟨g,cap',he,hR⟩:=qE hown2 hl (fun e=>by have:=(hnil.1 e).2;omega);subst he;have hO4:ai [] w0 w4:=hO.trans' (zG hgrow) (by
  intro z hz
  right
  cases a with
  |none=>simp[Value.ownBlock]at hz
  |some q=>simp[Value.ownBlock]at hz;subst hz;exact h.fresh q rfl)
 refine⟨_,cap',by rw[hl],⟨hR.owns bD.cells_len,?_,?_⟩,hO4⟩
 ·intro q hq
  simp only[Option.some.injEq]at hq;subst hq;show w0.heap.size<=g;have hs:=hO.size;cases a with
  |none=>simp[Value.ownBlock]at hat;omega
  |some q=>
   have:=h.fresh q rfl;simp[Value.ownBlock]at hat;omega
 ·intro y hy
  rcases List.mem_append.1 hy with h1|h1
  ·exact h.good y h1
  ·simp at h1;subst h1;exact hx
theorem Iy:(Tryz.prog.info? 162).map (fun i=>(i.zero,i.size,i.bytes))=some (some (.agg #[.string ⟨#[]⟩,.bool false,.int .u64 0,.int .u32 0,.bool false,.int .i64 0,.int .u64 0,.string ⟨#[]⟩]),8,72):=by kernel_rfl
theorem Iz(x:bD): ∀u∈x.cells,u.oneCell'=true:=by
 intro u hu;simp[bD.cells]at hu;rcases hu with rfl|rfl|rfl|rfl|rfl|rfl|rfl|rfl<;>rfl
theorem bR.met{w:World}{a:Option Addr}{M:List bP}(h:dR w a M){k:Nat}(hk:k<M.length): ∃b o,a=some ⟨b,o,none⟩/\b<w.heap.size/\M[k].wf/\ ∀j v,M[k].cells[j]?=some v->w.cell? ⟨b,o+k*15+j,none⟩=some v:=by
 obtain⟨b,o,e,hb,hx⟩:=h.2 (by omega);exact⟨b,o,e,hb,hx k _ (List.getElem?_eq_getElem hk)⟩
def Fz(w:World)(b q:Nat)(x:bP):Prop:= ∀j v,x.cells[j]?=some v->w.cell? ⟨b,q+j,none⟩=some v
theorem Fz.own{S:List Nat}{w w':World}{b q:Nat}{x:bP}(h:Fz w b q x)(ho:ai S w w')(hb:b<w.heap.size)(hS:b∉S):Fz w' b q x:=fun j v hj=>(ho.cell (p:=⟨b,q+j,none⟩) hb hS).trans (h j v hj)
def CF(r:Int×List bD)(w:World)(e:Ending)(w':World):Prop:=
 ∃a cap er,e=.returned (.tuple #[.slice a r.2.length cap,er])/\aI w.heap.size w' a cap r.2/\ai [] w w'/\
  ((r.1=1/\er=.nilIface)\/ ∃q,er=.iface 445 (.pointer (some ⟨q,0,none⟩))/\w'.heap[q]?=some (.cells #[.int .i64 r.1] 449 (0,0)))
theorem NM(a:Option Addr)(M:List bP)(cap:Nat)(w:World)(h:dR w a M):
  Calls Tryz.prog 294 #[.slice a M.length cap] w (CF (dx M) w):=by
 have hl:=h.1;obtain⟨i0,hi,hz0,hz1,hz2⟩:=info_parts Iy;unfold dx;by_cases hn:32<M.length
 ·rw[if_pos hn]
  go_enter Tryz.func294,Tryz.ntmps294
  go_wp2_with fail
  refine(jo _ _).mono ?_;rintro e w2 ⟨q,rfl,hr,hO⟩;change Hid _ at hr hO;go_wp2_with fail
  go_ret2
  exact⟨none,0,_,rfl,aI.nil _ _,hO.out,.inr ⟨_,rfl,hr.out⟩⟩
 ·rw[if_neg hn]
  generalize hr:jq M []=r;change Hid _ at hr;replace h:=af h;go_enter Tryz.func294,Tryz.ntmps294
  go_wp2_with fail
  go_loopg[4,13] M.length (fun g s4 s13 wr=> ∃(k:Nat) (oa:Option Addr) (oc:Nat) (L:List bD),k<=M.length/\g=M.length-k/\s13=.int .i64 k/\s4=.slice oa k oc/\L.length=k/\
   Aside (aI w.heap.size wr oa oc L/\ai [] w wr/\jq (M.drop k) L=r))
  case atStart=>exact⟨0,none,0,[],by omega,by omega,rfl,rfl,rfl,aI.nil _ _,ai.refl _ _,hr.out⟩
  case round=>
   obtain⟨k,oa,oc,L,hk,rfl,rfl,rfl,hL,hA⟩:=hrel;obtain⟨hR,hO,hG⟩:=hA;by_cases hlt:k<M.length
   ·obtain⟨b,o,rfl,hb,hwf,hc⟩:=(h.out.nil' hO).met hlt
    rw[List.drop_eq_getElem_cons hlt]at hG;generalize M[k]=x at hc hG hwf;have hxw:=VA hwf;have hxn:=NK x;have F:=xu x;unfold Fy at F;generalize hy:J5 x=y at F hxw hxn hG;change Hid _ at hy;have ME:=rW L x.name;have hpi:fI L x.name=(match lM L x.name with|some i=>(i:Int)|none=> -1):=rfl;have hP:=fun(w1:World) (aH:ai [] wr w1) (lb:Nat) (hc1:w1.cell? ⟨lb,0,none⟩=some (.slice oa L.length oc))=>zB oa L oc lb x.name w1 (((hR.nil' aH).at_ (by omega))) hc1
    have hown:=fun(w1:World) (aH:ai [] wr w1)=>(hR.nil' aH).own
    rw[hL]at hP hown;obtain⟨nm,hs,al,ti,ty,yL,tr,nu,⟨x1,y1,z1⟩,⟨x2,y2,z2⟩,vk,vn,vs,⟨x3,y3,z3⟩,⟨x4,y4,z4⟩⟩:=x;have c0:=hc 0 _ rfl;have c1:=hc 1 _ rfl;have c2:=hc 2 _ rfl;have c3:=hc 3 _ rfl;have c4:=hc 4 _ rfl;have c5:=hc 5 _ rfl;have c6:=hc 6 _ rfl;have c7:=hc 7 _ rfl;have c8:=hc 8 _ rfl;have c9:=hc 9 _ rfl;have c10:=hc 10 _ rfl;have c11:=hc 11 _ rfl;have c12:=hc 12 _ rfl;have c13:=hc 13 _ rfl;have c14:=hc 14 _ rfl;simp only[Nat.add_zero]at c0 c1 c2 c3 c4 c5 c6 c7 c8 c9 c10 c11 c12 c13 c14;simp only at ME hP hpi hG;unfold jq at hG;change Hid _ at hG;have BN:=hO.alloc (.cells #[.string nm,.bool hs,.int .u64 al,.int .u64 ti,.int .u32 ty,.bool yL,.bool tr,.bool nu,.slice x1 y1 z1,.slice x2 y2 z2,.int .i64 vk,.int .u64 vn,.string vs,.slice x3 y3 z3,.slice x4 y4 z4] 109);have En:=(ai.refl [] wr).alloc (.cells #[.string nm,.bool hs,.int .u64 al,.int .u64 ti,.int .u32 ty,.bool yL,.bool tr,.bool nu,.slice x1 y1 z1,.slice x2 y2 z2,.int .i64 vk,.int .u64 vn,.string vs,.slice x3 y3 z3,.slice x4 y4 z4] 109);have hBm:=heap_alloc_new wr (.cells #[.string nm,.bool hs,.int .u64 al,.int .u64 ti,.int .u32 ty,.bool yL,.bool tr,.bool nu,.slice x1 y1 z1,.slice x2 y2 z2,.int .i64 vk,.int .u64 vn,.string vs,.slice x3 y3 z3,.slice x4 y4 z4] 109);have Ub:=hO.size;unfold bP.val bP.cells at F;simp only at F;change Hid _ at F hP hown hO hBm hL hxn;replace hR:=af hR;replace BN:=af BN;replace En:=af En;clear hc hwf;by_cases hne:nm.toList.isEmpty=true
    ·go_wp2_with fail
     refine(jo _ _).mono ?_;rintro e w2 ⟨q,rfl,hr2,hO2⟩;have MX:r=(7,[]):=by have:=hG.out;rw[if_pos hne]at this;exact this.symm
     change Hid _ at MX;have hO3:=BN.out.trans hO2;change Hid _ at hr2;replace hO3:=af hO3;clear hO2 c0 c1 c2 c3 c4 c5 c6 c7 c8 c9 c10 c11 c12 c13 c14;go_wp2_with fail
     go_ret2
     rw[MX.out];exact⟨none,0,_,rfl,aI.nil _ _,hO3.out,.inr ⟨_,rfl,hr2.out⟩⟩
    ·have hne':nm.toList.isEmpty=false:=by simpa using hne
     replace hG:=af (by have:=hG.out;rw[if_neg hne]at this;exact this);clear hne;go_wp2_with fail
     refine(hP.out _ (En.out.alloc _) _ (by simp)).mono ?_;rintro e w2 ⟨rfl,hO2⟩;have hO3:=(BN.out.alloc (.cells #[.slice oa k oc] 35)).trans hO2;have ze:=(En.out.alloc (.cells #[.slice oa k oc] 35)).trans hO2;have hB3:=((ai.refl [] _).alloc (.cells #[.slice oa k oc] 35)).trans hO2 |>.heap hBm.out (by simp);cases hidx:lM L nm with
     |some i=>
      have hpv:fI L nm=i:=by rw[hpi,hidx]
      have H6:r=(10,[]):=by have:=hG.out;rw[hidx]at this;simpa using this.symm
      rw[hpv];change Hid _ at H6;replace hO3:=af hO3;clear hpv hpi ME hG hidx ze hB3 hO2 c0 c1 c2 c3 c4 c5 c6 c7 c8 c9 c10 c11 c12 c13 c14;go_wp2_with fail
      refine(jo _ _).mono ?_;rintro e w3 ⟨q,rfl,hr2,hO4⟩;change Hid _ at hr2;replace hO4:=af (hO3.out.trans hO4);go_wp2_with fail
      go_ret2
      rw[H6.out];exact⟨none,0,_,rfl,aI.nil _ _,hO4.out,.inr ⟨_,rfl,hr2.out⟩⟩
     |none=>
      have hpv:fI L nm= -1:=by rw[hpi,hidx]
      have hG2:jq (M.drop (k+1)) (L++[y])=r:=by have:=hG.out;rw[hidx]at this;simpa[hy.out]using this
      rw[hpv];change Hid _ at hG2;have d0:=ax hB3 (j:=0) rfl;have d1:=ax hB3 (j:=1) rfl;have d2:=ax hB3 (j:=2) rfl;have d3:=ax hB3 (j:=3) rfl;have d4:=ax hB3 (j:=4) rfl;have d5:=ax hB3 (j:=5) rfl;have d6:=ax hB3 (j:=6) rfl;have d7:=ax hB3 (j:=7) rfl;have d8:=ax hB3 (j:=8) rfl;have d9:=ax hB3 (j:=9) rfl;have zh:=ax hB3 (j:=10) rfl;have Ak:=ax hB3 (j:=11) rfl;have Al:=ax hB3 (j:=12) rfl;have BG:=ax hB3 (j:=13) rfl;have d14:=ax hB3 (j:=14) rfl;replace hO3:=af hO3;replace ze:=af ze;clear hpv hpi ME hG hidx hB3 hO2 c0 c1 c2 c3 c4 c5 c6 c7 c8 c9 c10 c11 c12 c13 c14;go_wp2_with fail
      refine(F.out _).mono ?_;rintro e w3 ⟨rfl,hO4⟩;have aB:=hO3.out.trans hO4;have QC:=ze.out.trans hO4;replace aB:=af aB;replace QC:=af QC;obtain⟨WB,hs',al',ty',WC,WE,WG,vs'⟩:=y;unfold bD.val;have hA1:=(ai.refl [] w3).alloc (.cells #[.string WB,.bool hs',.int .u64 al',.int .u32 ty',.bool WC,.int .i64 WE,.int .u64 WG,.string vs'] 162);have YO:=af (hown.out _ (QC.out.trans hA1));have sM:=af (hR.out.nil' (QC.out.trans hA1));have XR:=af (aB.out.trans hA1);have hnew:=af (World.news_of_block (heap_alloc_new w3 (.cells #[.string WB,.bool hs',.int .u64 al',.int .u32 ty',.bool WC,.int .i64 WE,.int .u64 WG,.string vs'] 162)));have hone:=af (Iz ⟨WB,hs',al',ty',WC,WE,WG,vs'⟩);unfold bD.cells;clear d0 d1 d2 d3 d4 d5 d6 d7 d8 d9 zh Ak Al BG d14 hO4 hA1 aB QC ze hO3;go_wp2_with(at_builtin;refine wpList_append_own_at _ rfl (.tmp 30) (.tmp 33) 35 rfl 0 162 i0 _ 8 72 Tryz.underlying35 hi hz0 hz1 hz2 rfl (by omega) (.slice oa k oc) k (aC bD.cells L) rfl YO.out ⟨w3.heap.size,0,none⟩ 1 1 [.string WB,.bool hs',.int .u64 al',.int .u32 ty',.bool WC,.int .i64 WE,.int .u64 WG,.string vs'] rfl rfl hnew.out hone.out (by unfold maxLen;omega) (by omega) (Nat.zero_le _) ?_;intro v2 w4 hown2 hgrow hnil hat;obtain⟨a2,cap2,rfl,hR2,hO2⟩:=aI.push sM.out hxw hL.out.symm XR.out hown2 hgrow hnil hat;clear hown2 hgrow hnil hat;replace hR2:=af hR2;replace hO2:=af hO2)
      go_roundg(M.length-(k+1))
      case measure=>omega
      case rel=>exact⟨k+1,a2,cap2,_,by omega,rfl,by go_num,rfl,by have:=hL.out;simp[this],hR2.out,hO2.out,hG2.out⟩
   ·obtain rfl:k=M.length:=by omega
    rw[List.drop_eq_nil_of_le (Nat.le_refl _)]at hG;have hr1:r=(1,L):=by unfold jq at hG;exact hG.symm
    change Hid _ at hr1 hO hL;replace hR:=af hR;clear hG;go_wp2_with fail
    go_ret2
    rw[hr1.out];exact⟨oa,oc,_,by simp only[hL.out];rfl,hR.out,hO.out,.inl ⟨rfl,rfl⟩⟩
end Go.Proofs.YtedcakchekaemaaGreatDoor
