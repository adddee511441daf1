/- Contracts of the program, part 26. -/
import Derived.Test.YtedcakchekaemaaGreatDoorMp23
set_option maxRecDepth 100000
set_option maxHeartbeats 16000000
set_option linter.all false
namespace Go.Proofs.YtedcakchekaemaaGreatDoor
open Go.RowKit
variable [Kd]
def or2(a b:Int):Int:=if a≠0 then a else b
theorem KN(a b:Int)(q:Nat)(w:World)(h0:w.cell? ⟨q,0,none⟩=some (.int .i64 a))(h1:w.cell? ⟨q,1,none⟩=some (.int .i64 b)):Calls Tryz.prog 28 #[.slice (some ⟨q,0,none⟩) 2 2] w fun e w'=>e=.returned (.int .i64 (or2 a b))/\w=w':=by
 unfold or2;by_cases ha:a≠0
 ·rw[if_pos ha]
  have qa:(a !=0)=true:=by simpa using ha
  clear ha;go_enter Tryz.func28,Tryz.ntmps28
  go_wp2_with fail
  refine wp_loop_rounds 1 ?_;rw[rounds_succ];go_wp2_with fail
  go_ret
  exact⟨rfl,rfl⟩
 ·rw[if_neg ha]
  have ha':a=0:=by omega
  subst ha';clear ha;by_cases hb:b≠0
  ·have qb:(b !=0)=true:=by simpa using hb
   clear hb;go_enter Tryz.func28,Tryz.ntmps28
   go_wp2_with fail
   refine wp_loop_rounds 2 ?_;rw[rounds_succ];go_wp2_with fail
   rw[rounds_succ];go_wp2_with fail
   go_ret
   exact⟨rfl,rfl⟩
  ·have hb':b=0:=by omega
   subst hb';go_enter Tryz.func28,Tryz.ntmps28
   go_wp2_with fail
   refine wp_loop_rounds 3 ?_;rw[rounds_succ];go_wp2_with fail
   rw[rounds_succ];go_wp2_with fail
   rw[rounds_succ];go_wp2_with fail
   go_ret
   exact⟨rfl,rfl⟩
def zB(x:Bi)(k:ByteArray×ByteArray):Int:=or2 (mV x.k0 k.1) (mV x.k1 k.2)
theorem MV(x:Bi)(k:ByteArray×ByteArray)(w:World):Calls Tryz.prog 225 #[.agg (bR x).toArray,.agg #[.string k.1,.string k.2]] w fun e w'=>e=.returned (.int .i64 (zB x k))/\ai [] w w':=by
 obtain⟨a,b⟩:=k;obtain⟨c,d,t⟩:=x;unfold zB bR;simp only;have hO:=((ai.refl [] w).alloc (.cells #[.string c,.string d,.string t] 227)).alloc (.cells #[.string a,.string b] 225);have hb:=((ai.refl [] _).alloc (.cells #[.string a,.string b] 225)).heap (heap_alloc_new w (.cells #[.string c,.string d,.string t] 227)) (by simp);have hd:=heap_alloc2_new w (.cells #[.string c,.string d,.string t] 227) (.cells #[.string a,.string b] 225);have C:=af (fun u v W=>zA u v W);have cO:=af (fun x y q W h0 h1=>KN x y q W h0 h1);have hx:Hid (∀W,ai [] ((w.alloc (.cells #[.string c,.string d,.string t] 227)).alloc (.cells #[.string a,.string b] 225)) W->(W.cell? ⟨w.heap.size,0,none⟩=some (.string c)/\W.cell? ⟨w.heap.size,1,none⟩=some (.string d)/\W.cell? ⟨w.heap.size+1,0,none⟩=some (.string a)/\W.cell? ⟨w.heap.size+1,1,none⟩=some (.string b))/\ai [] w W):=af fun W ho=>
  ⟨⟨cell_of_row _ _ 0 _ _ _ (ho.heap hb (by simp)),cell_of_row _ _ 1 _ _ _ (ho.heap hb (by simp)),cell_of_row _ _ 0 _ _ _ (ho.heap hd (by simp)),cell_of_row _ _ 1 _ _ _ (ho.heap hd (by simp))⟩,hO.trans ho⟩
 clear hO hb hd;go_enter Tryz.func225,Tryz.ntmps225
 go_wp2_with fail
 generalize((w.alloc (.cells #[.string c,.string d,.string t] 227)).alloc (.cells #[.string a,.string b] 225))=W0 at*;generalize hxb:w.heap.size=xb at*;have kW:=(hx.out W0 (ai.refl _ _)).1;have JZ:=(hx.out W0.drew ((ai.refl [] W0).drew)).1;go_region_held3(fun W=>W.cell? ⟨xb,0,none⟩=some (.string c)/\W.cell? ⟨xb,1,none⟩=some (.string d)/\W.cell? ⟨xb+1,0,none⟩=some (.string a)/\W.cell? ⟨xb+1,1,none⟩=some (.string b)) (first|with_reducible exact kW|with_reducible exact JZ|go_keep)
  ((first
    |(go_at_call 29;(with_reducible refine(C.out _ _ _).mono ?_);rintro e w2 ⟨rfl,rfl⟩)
    |(go_at_call 28;go_loud(refine(cO.out (mV c a) (mV d b) W0.heap.size _ (by first|exact cell_of_row _ _ 0 _ _ _ (heap_alloc_new _ _)|exact cell_of_row _ _ 0 _ _ _ (heap_alloc_new W0 _)) (by first|exact cell_of_row _ _ 1 _ _ _ (heap_alloc_new _ _)|exact cell_of_row _ _ 1 _ _ _ (heap_alloc_new W0 _))).mono ?_);rintro e w3 ⟨rfl,rfl⟩)))
 go_wp2_with fail
 go_ret
 exact⟨rfl,(hx.out _ ((ai.refl [] W0).alloc _).drew).2⟩
theorem V9(v:Value)(L:List Bi)(k:ByteArray×ByteArray)(pos:Nat)(w:World)(h:aG bR w v L)(hl:L.length<=40)(hp:pos<=L.length)(hiff: ∀j (hj:j<L.length),zB L[j] k<0↔j<pos):
  Calls Tryz.prog 224 #[v,.agg #[.string k.1,.string k.2],(.func (.func 225) #[] #[])] w fun e w'=>(∃has,e=.returned (.tuple #[.int .i64 pos,.bool has]))/\ai [] w w':=by
 obtain⟨va,vc,rfl⟩:=h.form;have hA:=(ai.refl [] w).alloc (.cells #[.string k.1,.string k.2] 225);have hk:=heap_alloc_new w (.cells #[.string k.1,.string k.2] 225);have hC: ∀W j,ai [] (w.alloc (.cells #[.string k.1,.string k.2] 225)) W->j<L.length-> ∃gb o x,va=some ⟨gb,o,none⟩/\(W.cell? ⟨gb,o+j*3,none⟩=some (.string (Bi.k0 x))/\W.cell? ⟨gb,o+j*3+1,none⟩=some (.string x.k1)/\W.cell? ⟨gb,o+j*3+2,none⟩=some (.string x.t))/\(zB x k<0↔j<pos):=fun W j ho hj=>by
  obtain⟨gb,o,e,c0,c1,c2⟩:=((h.nil' hA).nil' ho).biAt hj;exact⟨gb,o,L[j],e,⟨c0,c1,c2⟩,hiff j hj⟩
 have hK: ∀W,ai [] (w.alloc (.cells #[.string k.1,.string k.2] 225)) W->(W.cell? ⟨w.heap.size,0,none⟩=some (.string k.1)/\W.cell? ⟨w.heap.size,1,none⟩=some (.string k.2))/\ai [] w W:=fun W ho=>⟨⟨cell_of_row _ _ 0 _ _ _ (ho.heap hk (by simp)),cell_of_row _ _ 1 _ _ _ (ho.heap hk (by simp))⟩,hA.trans ho⟩
 have cF:=af fun x W=>MV x k W
 clear hA hk h hiff;generalize L.length=N at*;change Hid _ at hC hK;obtain⟨ka,kb⟩:=k;go_enter Tryz.func224,Tryz.ntmps224
 go_wp2_with fail
 generalize(w.alloc (.cells #[.string ka,.string kb] 225))=w0 at*;generalize hkq:w.heap.size=kq at*;change Hid _ at hkq;go_loopg[9,10] N (fun m s9 s10 wr=> ∃i j:Nat,i<=pos/\pos<=j/\j<=N/\m=j-i/\s9=.int .i64 i/\s10=.int .i64 j/\Aside (ai [] w0 wr))
 case atStart=>exact⟨0,N,by omega,hp,by omega,by omega,rfl,rfl,ai.refl _ _⟩
 case round=>
  obtain⟨i,j,hi,hj,hjN,rfl,rfl,rfl,hO⟩:=hrel;by_cases hlt:i<j
  ·obtain⟨gb,o,x,rfl,⟨c0,c1,c2⟩,hif⟩:=hC.out wr ((i+j)/2) hO (by omega)
   obtain⟨⟨k0,k1⟩,_⟩:=hK.out wr hO;have cX:=fun W=>cF.out x W
   obtain⟨r,hr⟩: ∃r,zB x (ka,kb)=r:=⟨_,rfl⟩;rw[hr]at cX hif;obtain⟨x0,x1,x2⟩:=x;unfold bR at cX;simp only at cX c0 c1 c2;have e1:(i+j)/2<N:=by omega
   have e3:(0:Int)<=((i:Int)+j)/2:=by omega
   have e4:((i:Int)+j)/2<(N:Int):=by omega
   have e2:(((i:Int)+j)/2).toNat=(i+j)/2:=by omega
   have kS:Hid (∀W,ai [] wr W->((W.cell? ⟨gb,o+((i+j)/2)*3,none⟩=some (.string x0)/\W.cell? ⟨gb,o+((i+j)/2)*3+1,none⟩=some (.string x1)/\W.cell? ⟨gb,o+((i+j)/2)*3+2,none⟩=some (.string x2))/\(W.cell? ⟨kq,0,none⟩=some (.string ka)/\W.cell? ⟨kq,1,none⟩=some (.string kb)))):=af fun W ho=>⟨⟨(ho.cell (block_lt_of_cell c0) (by simp)).trans c0,(ho.cell (block_lt_of_cell c1) (by simp)).trans c1,(ho.cell (block_lt_of_cell c2) (by simp)).trans c2⟩,(ho.cell (block_lt_of_cell k0) (by simp)).trans k0,(ho.cell (block_lt_of_cell k1) (by simp)).trans k1⟩
   have kW:=kS.out _ (ai.refl [] wr).drew;change Hid _ at cX;clear hr;by_cases hb:(i+j)/2<pos
   ·have hrn:decide (r<0)=true:=by simpa using hif.2 hb
    clear hif;go_wp2_with fail
    go_region_held3(fun W=>(W.cell? ⟨gb,o+((i+j)/2)*3,none⟩=some (.string x0)/\W.cell? ⟨gb,o+((i+j)/2)*3+1,none⟩=some (.string x1)/\W.cell? ⟨gb,o+((i+j)/2)*3+2,none⟩=some (.string x2))/\(W.cell? ⟨kq,0,none⟩=some (.string ka)/\W.cell? ⟨kq,1,none⟩=some (.string kb))) (first|with_reducible exact kA|with_reducible exact kW|go_keep) ((go_at_call 225;(with_reducible refine(cX.out _).mono ?_);rintro e w1 ⟨rfl,aL⟩;have kA:=kS.out _ ((ai.refl [] wr).drew.trans aL)))
    all_goals
     replace aL:=af (hO.trans ((ai.refl [] wr).drew.trans aL));clear kA kW kS c0 c1 c2 k0 k1;go_wp2_with fail
     go_roundg(j-((i+j)/2+1))
     case rel=>exact⟨(i+j)/2+1,j,by omega,hj,hjN,rfl,congrArg (Value.int .i64) (by omega),rfl,aL.out⟩
     case measure=>omega
   ·have hrn:decide (r<0)=false:=by simpa using fun h=>hb (hif.1 h)
    clear hif;go_wp2_with fail
    go_region_held3(fun W=>(W.cell? ⟨gb,o+((i+j)/2)*3,none⟩=some (.string x0)/\W.cell? ⟨gb,o+((i+j)/2)*3+1,none⟩=some (.string x1)/\W.cell? ⟨gb,o+((i+j)/2)*3+2,none⟩=some (.string x2))/\(W.cell? ⟨kq,0,none⟩=some (.string ka)/\W.cell? ⟨kq,1,none⟩=some (.string kb))) (first|with_reducible exact kA|with_reducible exact kW|go_keep) ((go_at_call 225;(with_reducible refine(cX.out _).mono ?_);rintro e w1 ⟨rfl,aL⟩;have kA:=kS.out _ ((ai.refl [] wr).drew.trans aL)))
    all_goals
     replace aL:=af (hO.trans ((ai.refl [] wr).drew.trans aL));clear kA kW kS c0 c1 c2 k0 k1;go_wp2_with fail
     go_roundg((i+j)/2-i)
     case rel=>exact⟨i,(i+j)/2,hi,by omega,by omega,rfl,rfl,congrArg (Value.int .i64) (by omega),aL.out⟩
     case measure=>omega
  ·obtain rfl:i=pos:=by omega
   by_cases hip:i<N
   ·obtain⟨gb,o,x,rfl,⟨c0,c1,c2⟩,hif⟩:=hC.out wr i hO hip
    obtain⟨⟨k0,k1⟩,_⟩:=hK.out wr hO;have cX:=fun W=>cF.out x W
    generalize zB x (ka,kb)=r at*;obtain⟨x0,x1,x2⟩:=x;unfold bR at cX;simp only at cX c0 c1 c2;have kS:Hid (∀W,ai [] wr W->((W.cell? ⟨gb,o+i*3,none⟩=some (.string x0)/\W.cell? ⟨gb,o+i*3+1,none⟩=some (.string x1)/\W.cell? ⟨gb,o+i*3+2,none⟩=some (.string x2))/\(W.cell? ⟨kq,0,none⟩=some (.string ka)/\W.cell? ⟨kq,1,none⟩=some (.string kb)))):=af fun W ho=>⟨⟨(ho.cell (block_lt_of_cell c0) (by simp)).trans c0,(ho.cell (block_lt_of_cell c1) (by simp)).trans c1,(ho.cell (block_lt_of_cell c2) (by simp)).trans c2⟩,(ho.cell (block_lt_of_cell k0) (by simp)).trans k0,(ho.cell (block_lt_of_cell k1) (by simp)).trans k1⟩
    have kW:=kS.out _ (ai.refl [] wr).drew;change Hid _ at cX;have dK:=af fun W ho=>(hK.out W (hO.trans ho)).2
    clear hif;by_cases hr0:r=0
    ·have q:(r==0)=true:=by simpa using hr0
     clear hr0;go_wp2_with fail
     go_region_held3(fun W=>(W.cell? ⟨gb,o+i*3,none⟩=some (.string x0)/\W.cell? ⟨gb,o+i*3+1,none⟩=some (.string x1)/\W.cell? ⟨gb,o+i*3+2,none⟩=some (.string x2))/\(W.cell? ⟨kq,0,none⟩=some (.string ka)/\W.cell? ⟨kq,1,none⟩=some (.string kb))) (first|with_reducible exact kA|with_reducible exact kW|go_keep) ((go_at_call 225;(with_reducible refine(cX.out _).mono ?_);rintro e w1 ⟨rfl,aL⟩;have kA:=kS.out _ ((ai.refl [] wr).drew.trans aL)))
     all_goals
      replace aL:=af (dK.out _ ((ai.refl [] wr).drew.trans aL));clear kA kW kS c0 c1 c2 k0 k1;go_wp2_with fail
      go_ret2
      exact⟨⟨_,rfl⟩,aL.out⟩
    ·have q:(r==0)=false:=by simpa using hr0
     clear hr0;go_wp2_with fail
     go_region_held3(fun W=>(W.cell? ⟨gb,o+i*3,none⟩=some (.string x0)/\W.cell? ⟨gb,o+i*3+1,none⟩=some (.string x1)/\W.cell? ⟨gb,o+i*3+2,none⟩=some (.string x2))/\(W.cell? ⟨kq,0,none⟩=some (.string ka)/\W.cell? ⟨kq,1,none⟩=some (.string kb))) (first|with_reducible exact kA|with_reducible exact kW|go_keep) ((go_at_call 225;(with_reducible refine(cX.out _).mono ?_);rintro e w1 ⟨rfl,aL⟩;have kA:=kS.out _ ((ai.refl [] wr).drew.trans aL)))
     all_goals
      replace aL:=af (dK.out _ ((ai.refl [] wr).drew.trans aL));clear kA kW kS c0 c1 c2 k0 k1;go_wp2_with fail
      go_ret2
      exact⟨⟨_,rfl⟩,aL.out⟩
   ·have hO2:=af (hK.out wr hO).2
    have qi: ¬(i:Int)<(N:Int):=by omega
    have qd:decide ((i:Int)<(N:Int))=false:=by simpa using hip
    go_wp2_with fail
    go_quiet(fail)
    go_wp2_with fail
    go_ret2
    exact⟨⟨_,rfl⟩,hO2.out.drewN _⟩
abbrev Rk:=ByteArray×ByteArray
def Bi.rk(x:Bi):Rk:=(x.k0,x.k1)
def dH(a b:Rk):Prop:=aU a.1 b.1=true\/a.1=b.1/\aU a.2 b.2=true
theorem vN(x:Bi)(k:Rk):zB x k<0↔dH x.rk k:=by
 unfold zB dH or2 mV Bi.rk;simp only;by_cases h1:aU x.k0 k.1=true
 ·simp[h1]
 ·by_cases h2:x.k0=k.1
  ·rw[h2]
   have h3:=iG k.1;simp only[h3];by_cases h4:aU x.k1 k.2=true
   ·simp[h4]
   ·by_cases h5:(x.k1.toList==k.2.toList)=true
    ·simp[h4,h5]
    ·simp[h4,h5]
  ·have h3:(x.k0.toList==k.1.toList)=false:=by
    rw[Bool.eq_false_iff];intro h;exact h2 (dA (LawfulBEq.eq_of_beq h))
   simp[h1,h2,h3]
theorem jC{a b c:Rk}(h:dH a b)(k:dH b c):dH a c:=by
 unfold dH at*;rcases h with h|⟨h1,h2⟩
 ·rcases k with k|⟨k1,k2⟩
  ·exact .inl (kr h k)
  ·exact .inl (by rw[<-k1];exact h)
 ·rcases k with k|⟨k1,k2⟩
  ·exact .inl (by rw[h1];exact k)
  ·exact .inr ⟨h1.trans k1,kr h2 k2⟩
theorem nX(a:Rk): ¬dH a a:=by
 unfold dH;simp[iG]
theorem pX{a b:Rk}(h: ¬dH a b)(k: ¬dH b a):a=b:=by
 unfold dH at*;simp only[not_or,not_and]at h k;have h1:a.1=b.1:=ni (by simpa using h.1) (by simpa using k.1);exact Prod.ext h1 (ni (by simpa using h.2 h1) (by simpa using k.2 h1.symm))
def gF(L:List Bi):Prop:=L.Pairwise fun x y=>dH x.rk y.rk
def uK(k:Rk)(L:List Bi):Nat:=(L.takeWhile fun x=>decide (zB x k<0)).length
theorem CO(k:Rk)(L:List Bi):uK k L<=L.length:=(List.takeWhile_prefix _).length_le
theorem zC{k:Rk}: ∀{L:List Bi},gF L-> ∀j (hj:j<L.length),zB L[j] k<0↔j<uK k L
 | [],_,j,hj=>by simp at hj
 |x::r,h,j,hj=>by
  obtain⟨h1,h2⟩:=List.pairwise_cons.1 h;unfold uK;by_cases hx:zB x k<0
  ·rw[List.takeWhile_cons,if_pos (by simpa using hx),List.length_cons]
   cases j with
   |zero=>simpa using hx
   |succ j=>
    have:=zC (k:=k) (L:=r) h2 j (by simpa using hj);unfold uK at this;simpa using this
  ·rw[List.takeWhile_cons,if_neg (by simpa using hx)]
   simp only[List.length_nil,Nat.not_lt_zero,iff_false];cases j with
   |zero=>simpa using hx
   |succ j=>
    intro hh;refine hx ((vN _ _).2 (jC (h1 _ (List.getElem_mem (by simpa using hj))) ((vN _ _).1 (by simpa using hh))))
theorem pY{L:List Bi}(h:gF L)(k:Rk):gF (dG k L):=h.sublist List.filter_sublist
theorem lF(k:Rk)(L:List Bi):(dG k L).length<=L.length:=List.length_filter_le _ _
def qP(t x:ByteArray)(L:List Bi):Int×List Bi:=
 if(gW t).2=false then(13,L)else
 if(dG (gW t).1 L).length=L.length/\40<=(dG (gW t).1 L).length then(6,dG (gW t).1 L)
 else(0,(dG (gW t).1 L).take (uK (gW t).1 (dG (gW t).1 L))++[⟨(gW t).1.1,(gW t).1.2,x⟩]++(dG (gW t).1 L).drop (uK (gW t).1 (dG (gW t).1 L)))
def oO(t:ByteArray)(L:List Bi):List Bi:=if(gW t).2=false then L else dG (gW t).1 L
structure kL (w:World) (b:Nat) (v:Value) (L:List Bi):Prop where
 row:w.heap[b]?=some (.cells #[v,.bool true] 150 (0,0))
 l:Sl 227 bR 3 0 w v L
 ap:v.ownBlock≠some b
 few:L.length<=40
def bC(b:Nat)(v:Value):List Nat:=b::v.ownBlock.toList
theorem kL.own{S:List Nat}{w w':World}{b:Nat}{v:Value}{L:List Bi}(h:kL w b v L)(ho:ai S w w')(hS: ∀x∈bC b v,x∉S):kL w' b v L:=
 ⟨ho.heap h.row (hS b (by simp[bC])),h.l.own ho (fun g hg=>hS g (by simp[bC,hg])),h.ap,h.few⟩
theorem kL.nil'{w w':World}{b:Nat}{v:Value}{L:List Bi}(h:kL w b v L)(ho:ai [] w w'):kL w' b v L:=h.own ho (by simp)
theorem kL.lt{w:World}{b:Nat}{v:Value}{L:List Bi}(h:kL w b v L): ∀x∈bC b v,x<w.heap.size:=by
 intro x hx;rcases List.mem_cons.1 hx with rfl|hx
 ·exact aj h.row
 ·exact(h.l.block (Option.mem_toList.1 hx)).2
theorem kL.cells{w:World}{b:Nat}{v:Value}{L:List Bi}(h:kL w b v L):w.cell? ⟨b,0,none⟩=some v/\w.cell? ⟨b,1,none⟩=some (.bool true)/\w.frozen? ⟨b,0,none⟩=false:=
 ⟨cell_of_row _ _ 0 _ _ _ h.row,cell_of_row _ _ 1 _ _ _ h.row,frozen_of_row _ b 0 _ _ h.row⟩
theorem kL.set{w:World}{b:Nat}{v v':Value}{L':List Bi}(hr:w.heap[b]?=some (.cells #[v,.bool true] 150 (0,0)))(hl:Sl 227 bR 3 0 w v' L')(ha:v'.ownBlock≠some b)(hf:L'.length<=40):
  kL (w.setCell ⟨b,0,none⟩ v') b v' L'/\ai [b] w (w.setCell ⟨b,0,none⟩ v'):=by
 have ho:ai [b] w (w.setCell ⟨b,0,none⟩ v'):=(ai.refl _ _).setCell (.inl (by simp)) _;refine⟨⟨by have:=heap_setCell_same w b 0 _ _ v' hr;simpa using this,hl.own ho (fun g hg=>by simp;exact fun e=>ha (by rw[hg,e])),ha,hf⟩,ho⟩
theorem zD(b:Nat)(w:World)(h:w.cell? ⟨b,1,none⟩=some (.bool true)):Calls Tryz.prog 114 #[aN b] w fun e w'=>e=.returned (.bool false)/\w=w':=by
 go_enter Tryz.func114,Tryz.ntmps114
 go_wp2_with fail
 go_ret
 exact⟨rfl,rfl⟩
def vO(b:Nat)(v:Value)(k:Rk)(L:List Bi)(w:World)(e:Ending)(w':World):Prop:=
 e=.returned (.int .i64 ((L.length:Int)-(dG k L).length))/\ ∃v',kL w' b v' (dG k L)/\ai (bC b v) w w'/\v'.ownBlock=v.ownBlock
theorem E8(b:Nat)(v:Value)(k:Rk)(L:List Bi)(w:World)(h:kL w b v L):Calls Tryz.prog 170 #[aN b,.agg #[.string k.1,.string k.2]] w (vO b v k L w):=by
 have hA:=(ai.refl [] w).alloc (.cells #[.string k.1,.string k.2] 225);have hk:wR (w.alloc (.cells #[.string k.1,.string k.2] 225)) w.heap.size k:=heap_alloc_new w (.cells #[.string k.1,.string k.2] 225);have h1:=h.nil' hA;have hne:v.ownBlock≠some w.heap.size:=fun e=>by
  have:=(h.l.block e).2;omega
 have cD:=Ra k w.heap.size 0 v L _ h1.l hk hne h.few;have hbl:=aj h.row;obtain⟨va,vc,rfl⟩:=h.l.sl;obtain⟨c0,c1,z0⟩:=h1.cells;have hsub:IntKind.i64.wrap ((L.length:Int)-((dG k L).length:Int))=(L.length:Int)-((dG k L).length:Int):=IntWalk.i64_in _ (by have:=h.few;have:=lF k L;omega);have hkl:(dG k L).length<=40:=Nat.le_trans (lF k L) h.few;unfold vO;generalize hLK:dG k L=LK at*;replace cD:=af cD;have hrow:=af h1.row;have hap:=af h1.ap;change Hid _ at hkl;replace hA:=af hA;clear h h1 hk hne hLK;go_enter Tryz.func170,Tryz.ntmps170
 go_wp2_with fail
 refine cD.out.mono ?_;rintro e w2 ⟨v2,rfl,hS2,hO2,hv2⟩;have hr2:=hO2.heap hrow.out (by simpa using hap.out);obtain⟨vb,vd,rfl⟩:=hS2.sl;obtain⟨hB,hOb⟩:=kL.set hr2 hS2 (by rw[hv2];exact hap.out) hkl.out;have d0:=cell_of_row _ b 0 _ _ _ hr2;have y0:=frozen_of_row _ b 0 _ _ hr2;have e0:=hB.cells.1;have dK:ai (bC b (.slice va L.length vc)) w (w2.setCell ⟨b,0,none⟩ (.slice vb LK.length vd)):=
  ((hA.out.nil (S:=bC b (.slice va L.length vc))).trans (hO2.mono (by intro x hx;exact List.mem_cons_of_mem _ hx))).trans (hOb.mono (by intro x hx;simp at hx;subst hx;simp[bC]))
 change Hid _ at hB dK hv2;clear cD hr2 hS2 hO2 hOb;go_wp2_with fail
 go_ret
 exact⟨rfl,_,hB.out,dK.out,hv2.out⟩
theorem IV(b:Nat)(v:Value)(k:Rk)(L:List Bi)(w:World)(h:kL w b v L)(hs:gF L):Calls Tryz.prog 171 #[aN b,.agg #[.string k.1,.string k.2]] w fun e w'=>(∃has,e=.returned (.tuple #[.int .i64 (uK k L),.bool has]))/\ai [] w w':=by
 have hA:=(ai.refl [] w).alloc (.cells #[.string k.1,.string k.2] 225);have hk:=heap_alloc_new w (.cells #[.string k.1,.string k.2] 225);have h1:=h.nil' hA;have cS:=fun W (ho:ai [] (w.alloc (.cells #[.string k.1,.string k.2] 225)) W)=>V9 v L k (uK k L) W ((h1.nil' ho).l.reads dJ) h.few (CO k L) (zC hs)
 obtain⟨va,vc,rfl⟩:=h.l.sl;have kS:Hid (∀W,ai [] (w.alloc (.cells #[.string k.1,.string k.2] 225)) W->(W.cell? ⟨b,0,none⟩=some (.slice va L.length vc)/\W.cell? ⟨w.heap.size,0,none⟩=some (.string k.1)/\W.cell? ⟨w.heap.size,1,none⟩=some (.string k.2))):=af fun W ho=>⟨(h1.nil' ho).cells.1,cell_of_row _ _ 0 _ _ _ (ho.heap hk (by simp)),cell_of_row _ _ 1 _ _ _ (ho.heap hk (by simp))⟩
 generalize uK k L=pos at*;generalize L.length=nL at*;change Hid _ at cS;replace hA:=af hA;clear h h1 hk hs;go_enter Tryz.func171,Tryz.ntmps171
 go_wp2_with fail
 generalize(w.alloc (.cells #[.string k.1,.string k.2] 225))=w1 at*;generalize w.heap.size=kq at*;have kW:=kS.out _ (ai.refl [] w1);have JZ:=kS.out _ (ai.refl [] w1).drew;go_region_held3(fun W=>W.cell? ⟨b,0,none⟩=some (.slice va nL vc)/\W.cell? ⟨kq,0,none⟩=some (.string k.1)/\W.cell? ⟨kq,1,none⟩=some (.string k.2)) (first|with_reducible exact kA|with_reducible exact JZ|with_reducible exact kW|go_keep)
  ((go_at_call 224;(with_reducible refine(cS.out _ (ai.refl [] w1).drew).mono ?_);rintro e w2 ⟨⟨has,rfl⟩,hO2⟩;have kA:=kS.out _ ((ai.refl [] w1).drew.trans hO2)))
 all_goals
  replace hO2:=af (hA.out.trans ((ai.refl [] w1).drew.trans hO2));clear kA kW JZ kS;go_wp2_with fail
  go_ret2
  exact⟨⟨_,rfl⟩,hO2.out⟩
end Go.Proofs.YtedcakchekaemaaGreatDoor
namespace Go.Proofs.YtedcakchekaemaaGreatDoor
open Go.RowKit
abbrev tu:=List (ByteArray×Bool)
def KO:List UInt8:=[79,78,76,73,78,69]
def rO:List UInt8:=[79,70,70,76,73,78,69]
def lV(st:tu)(n:ByteArray):Option Nat:=st.findIdx? (fun p=>n==p.1)
def MX(st:tu)(n:ByteArray)(on:Bool):Int×tu:=
 match lV st n with
 |some i=>(1,st.set i (n,on))
 |none=>if 4<=st.length then(8,st)else(1,st++[(n,on)])
def kP(st:tu)(n t:ByteArray):Int×tu:=
 if n.toList=[]then(7,st)
 else if t.toList=KO then MX st n true
 else if t.toList=rO then MX st n false
 else(3,st)
def uL(st:tu):List (ByteArray×Value):=st.zipIdx.map fun p=>(p.1.1,Value.int .i64 p.2)
def KP(st:tu)(i:Nat):ByteArray×Bool:=st.getD i (ByteArray.empty,false)
theorem Fa(st:tu):(uL st).length=st.length:=by simp[uL]
theorem Fb(st:tu)(i:Nat):(uL st)[i]?=(st[i]?).map fun p=>(p.1,Value.int .i64 i):=by
 simp[uL,List.getElem?_zipIdx,Function.comp_def]
theorem wW(st:tu)(n:ByteArray):(uL st).findIdx? (fun p=>n==p.1)=lV st n:=by
 have h: ∀(l:tu) (k:Nat),(l.zipIdx k).findIdx? ((fun p:ByteArray×Value=>n==p.1)∘fun p=>(p.1.1,Value.int .i64 p.2))=l.findIdx? (fun p=>n==p.1):=by
  intro l;induction l with
  |nil=>intro k;rfl
  |cons p r ih=>intro k;simp only[List.zipIdx_cons,List.findIdx?_cons,ih,Function.comp]
 unfold uL lV;rw[List.findIdx?_map,h]
theorem vQ{st:tu}{n:ByteArray}{i:Nat}(h:lV st n=some i):i<st.length:=(List.findIdx?_eq_some_iff_getElem.1 h).1
theorem IW{st:tu}{n:ByteArray}{i:Nat}(h:lV st n=some i):(KP st i).1=n:=by
 obtain⟨hl,hk,_⟩:=List.findIdx?_eq_some_iff_getElem.1 h;simp only[KP,List.getD,List.getElem?_eq_getElem hl,Option.getD_some];exact(LawfulBEq.eq_of_beq hk).symm
theorem Al{st:tu}{n:ByteArray}{i:Nat}(h:lV st n=some i):aQ (uL st) n=some (.int .i64 i):=by
 rw[kg,wW,h];simp[Fb,List.getElem?_eq_getElem (vQ h)]
theorem tX{st:tu}{n:ByteArray}(h:lV st n=none):aQ (uL st) n=none:=by
 rw[kg,wW,h];rfl
theorem Rn{st:tu}{n:ByteArray}{i:Nat}(h:lV st n=some i)(on:Bool):uL (st.set i (n,on))=uL st:=by
 have hn:=IW h;have hl:=vQ h;simp only[KP,List.getD,List.getElem?_eq_getElem hl,Option.getD_some]at hn;apply List.ext_getElem?;intro j;simp only[Fb,List.getElem?_set];by_cases hj:i=j
 ·subst hj;simp[hl,hn]
 ·simp[hj]
theorem MZ{st:tu}{n:ByteArray}(h:lV st n=none)(on:Bool):uL (st++[(n,on)])=bX (uL st) n (.int .i64 st.length):=by
 rw[wC _ (by rw[wW];exact h)];simp[uL,List.zipIdx_append]
structure kM (w:World) (b m:Nat) (st:tu):Prop where
 ne:b≠m
 len:st.length<=4
 row: ∃c,w.heap[b]?=some (.cells c 147 (0,0))/\c.size=9/\c[8]?=some (.map (some m))/\ ∀i,i<4->c[2*i]?=some (.string (KP st i).1)/\c[2*i+1]?=some (.bool (KP st i).2)
 map:dI Value.string w m (uL st)
theorem kM.own{S:List Nat}{w w':World}{b m:Nat}{st:tu}(h:kM w b m st)(ho:ai S w w')(hb:b∉S)(hm:m∉S):kM w' b m st:=by
 obtain⟨h1,h2,⟨c,h3,h4⟩,h5⟩:=h;exact⟨h1,h2,⟨c,ho.heap h3 hb,h4⟩,h5.own ho hm⟩
theorem kM.lt{w:World}{b m:Nat}{st:tu}(h:kM w b m st):b<w.heap.size/\m<w.heap.size:=by
 obtain⟨h1,h2,⟨c,h3,h4⟩,h5⟩:=h;exact⟨aj h3,h5.lt⟩
theorem kM.drew{w:World}{b m:Nat}{st:tu}(h:kM w b m st):kM w.drew b m st:=h.own (S:=[]) (ai.refl _ _).drew (by simp) (by simp)
theorem kM.put{w:World}{b m:Nat}{st:tu}(h:kM w b m st){i:Nat}{n:ByteArray}{on:Bool}(hf:lV st n=some i):
  kM ((w.setCell ⟨b,i*2,none⟩ (.string n)).setCell ⟨b,i*2+1,none⟩ (.bool on)) b m (st.set i (n,on)):=by
 obtain⟨h1,h2,⟨c,h3,h4,h5,h6⟩,h7⟩:=h;have hi:=vQ hf;refine⟨h1,by simpa using h2,⟨_,heap_setCell_same _ _ _ _ _ _ (heap_setCell_same _ _ _ _ _ _ h3),by simp[h4],?_,?_⟩,?_⟩
 ·simp only[Array.getElem?_setIfInBounds];rw[if_neg (by omega),if_neg (by omega)];exact h5
 ·intro j hj
  simp only[Array.getElem?_setIfInBounds,Array.size_setIfInBounds,h4];by_cases hij:i=j
  ·subst hij
   rw[if_neg (by omega),if_pos (by omega),if_pos (by omega),if_pos (by omega),if_pos (by omega)];simp[KP,List.getD,hi]
  ·rw[if_neg (by omega),if_neg (by omega),if_neg (by omega),if_neg (by omega)]
   have:=h6 j hj;simpa[KP,List.getD,List.getElem?_set,hij]using this
 ·rw[Rn hf]
  exact h7.of_heap (by rw[heap_setCell_other _ _ _ _ (by simpa using Ne.symm h1),heap_setCell_other _ _ _ _ (by simpa using Ne.symm h1)])
theorem kM.push{w w1:World}{b m:Nat}{st:tu}(h:kM w b m st){n:ByteArray}{on:Bool}(hf:lV st n=none)(hl:st.length<4)(ho:ai [m] w w1)
  (hm:dI Value.string w1 m (bX (uL st) n (.int .i64 st.length))):
  kM ((w1.setCell ⟨b,st.length*2,none⟩ (.string n)).setCell ⟨b,st.length*2+1,none⟩ (.bool on)) b m (st++[(n,on)]):=by
 obtain⟨h1,h2,⟨c,h3,h4,h5,h6⟩,h7⟩:=h;refine⟨h1,by simp;omega,⟨_,heap_setCell_same _ _ _ _ _ _ (heap_setCell_same _ _ _ _ _ _ (ho.heap h3 (by simpa using h1))),by simp[h4],?_,?_⟩,?_⟩
 ·simp only[Array.getElem?_setIfInBounds];rw[if_neg (by omega),if_neg (by omega)];exact h5
 ·intro j hj
  simp only[Array.getElem?_setIfInBounds,Array.size_setIfInBounds,h4];by_cases hij:st.length=j
  ·subst hij
   rw[if_neg (by omega),if_pos (by omega),if_pos (by omega),if_pos (by omega),if_pos (by omega)];simp[KP,List.getD]
  ·rw[if_neg (by omega),if_neg (by omega),if_neg (by omega),if_neg (by omega)]
   have:=h6 j hj;by_cases hj2:j<st.length
   ·simpa[KP,List.getD,List.getElem?_append_left hj2]using this
   ·simpa[KP,List.getD,List.getElem?_eq_none (show st.length<=j by omega),List.getElem?_eq_none (show(st++[(n,on)]).length<=j by simp;omega)]using this
 ·rw[MZ hf]
  exact hm.of_heap (by rw[heap_setCell_other _ _ _ _ (by simpa using Ne.symm h1),heap_setCell_other _ _ _ _ (by simpa using Ne.symm h1)])
theorem jk(b:Nat)(m:Nat)(w:World)(hm:w.cell? ⟨b,8,none⟩=some (.map (some m))):
  Calls Tryz.prog 143 #[.pointer (some ⟨b,0,none⟩)] w fun e w'=>e=.returned (.bool false)/\w=w':=by
 have hq:=fun w r=>run_eql_map_nil w 144 9 3 r Tryz.underlying144
 go_enter Tryz.func143,Tryz.ntmps143
 go_wp2
 go_ret
 exact⟨rfl,rfl⟩
def lW(w:World)(b m:Nat)(r:Int×tu)(e:Ending)(w':World):Prop:=
 e=.returned (.int .i64 r.1)/\kM w' b m r.2/\ai [b,m] w w'
theorem Fe(b m:Nat)(st:tu)(w:World)(n t:ByteArray)(h:kM w b m st)(hx:n.toList=[]\/(n.toList≠[]/\t.toList≠KO/\t.toList≠rO)):
  Calls Tryz.prog 92 #[.pointer (some ⟨b,0,none⟩),.string n,.string t] w (lW w b m (kP st n t)):=by
 obtain⟨c,h3,h4,h5,h6⟩:=h.row;have hm:w.cell? ⟨b,8,none⟩=some (.map (some m)):=(cell_of_row w b 8 c _ _ h3).trans h5;rcases hx with hx|⟨hn,hu,hd⟩
 ·have hr:kP st n t=(7,st):=by simp[kP,hx]
  have hr':=af hr;clear hr;have hP:=af h;clear h h3 h4 h5 h6;have hb:n.toList.isEmpty=true:=by simp[hx]
  clear hx;go_enter Tryz.func92,Tryz.ntmps92
  go_wp2_with((go_at_call 143;refine(jk _ _ _ hm).mono ?_;rintro e w' ⟨rfl,rfl⟩))
  go_ret
  rw[hr'.out];exact⟨rfl,hP.out,ai.refl _ _⟩
 ·have hr:kP st n t=(3,st):=by simp[kP,hn,hu,hd]
  have hr':=af hr;clear hr;have hP:=af h;clear h h3 h4 h5 h6;have hb:n.toList.isEmpty=false:=by simpa using hn
  have hu':(t.toList==[79,78,76,73,78,69])=false:=by simpa[KO]using hu
  have hd':(t.toList==[79,70,70,76,73,78,69])=false:=by simpa[rO]using hd
  clear hn hu hd;go_enter Tryz.func92,Tryz.ntmps92
  go_wp2_with((go_at_call 143;refine(jk _ _ _ hm).mono ?_;rintro e w' ⟨rfl,rfl⟩))
  go_ret
  rw[hr'.out];exact⟨rfl,hP.out,ai.refl _ _⟩
theorem Ff(w:World):(zeroValue 3).run Tryz.prog w=.ok (.int .i64 0) w:=by kernel_rfl
theorem Ro(b m:Nat)(st:tu)(w:World)(n t:ByteArray)(h:kM w b m st)(hn:n.toList≠[])(on:Bool)(hu:(t.toList==KO)=on)(hd:on=false->(t.toList==rO)=true)
  (i:Nat)(hf:lV st n=some i):
  Calls Tryz.prog 92 #[.pointer (some ⟨b,0,none⟩),.string n,.string t] w (lW w b m (1,st.set i (n,on))):=by
 obtain⟨c,h3,h4,h5,h6⟩:=h.row;have hm:w.cell? ⟨b,8,none⟩=some (.map (some m)):=(cell_of_row w b 8 c _ _ h3).trans h5;have hi:=vQ hf;have hi4:i<4:=Nat.lt_of_lt_of_le hi h.len;have hc0:w.cell? ⟨b,i*2,none⟩=some (.string (KP st i).1):=(cell_of_row w b _ c _ _ h3).trans (by rw[Nat.mul_comm];exact(h6 i hi4).1);have hc1:w.cell? ⟨b,i*2+1,none⟩=some (.bool (KP st i).2):=(cell_of_row w b _ c _ _ h3).trans (by rw[Nat.mul_comm];exact(h6 i hi4).2);have hf0:w.frozen? ⟨b,i*2,none⟩=false:=frozen_of_row w b _ c _ h3;have hf1:w.frozen? ⟨b,i*2+1,none⟩=false:=frozen_of_row w b _ c _ h3;have hlk:=h.map.lookup_yes (mY Tryz.underlying9) Tryz.underlying144 n (Al hf) true;simp only[if_true]at hlk;have hP:=af (And.intro h hf);clear h h3 h4 h5 h6 hf hi;have hb:n.toList.isEmpty=false:=by simpa using hn
 clear hn;cases on
 ·have hu':(t.toList==[79,78,76,73,78,69])=false:=by simpa[KO]using hu
  have hd':(t.toList==[79,70,70,76,73,78,69])=true:=by simpa[rO]using hd rfl
  clear hu hd;go_enter Tryz.func92,Tryz.ntmps92
  go_wp2_with((go_at_call 143;refine(jk _ _ _ hm).mono ?_;rintro e w' ⟨rfl,rfl⟩))
  go_ret
  exact⟨rfl,hP.out.1.put hP.out.2,((ai.refl _ _).setCell (by simp) _).setCell (by simp) _⟩
 ·have hu':(t.toList==[79,78,76,73,78,69])=true:=by simpa[KO]using hu
  clear hu hd;go_enter Tryz.func92,Tryz.ntmps92
  go_wp2_with((go_at_call 143;refine(jk _ _ _ hm).mono ?_;rintro e w' ⟨rfl,rfl⟩))
  go_ret
  exact⟨rfl,hP.out.1.put hP.out.2,((ai.refl _ _).setCell (by simp) _).setCell (by simp) _⟩
theorem M0(b m:Nat)(st:tu)(w:World)(n t:ByteArray)(h:kM w b m st)(hn:n.toList≠[])(on:Bool)(hu:(t.toList==KO)=on)(hd:on=false->(t.toList==rO)=true)
  (hf:lV st n=none)(hl:st.length<4):
  Calls Tryz.prog 92 #[.pointer (some ⟨b,0,none⟩),.string n,.string t] w (lW w b m (1,st++[(n,on)])):=by
 obtain⟨c,h3,h4,h5,h6⟩:=h.row;have hne:=h.ne;have hm:w.cell? ⟨b,8,none⟩=some (.map (some m)):=(cell_of_row w b 8 c _ _ h3).trans h5;have hlk:=h.map.lookup_no (mY Tryz.underlying9) Tryz.underlying144 n (Ff w) (tX hf) true;simp only[if_true]at hlk;have hlen:=h.map.len_run Tryz.underlying144;rw[Fa]at hlen;obtain⟨w1,hup,hms,ho,hs1⟩:=h.map.update (mY Tryz.underlying9) Tryz.underlying144 n (.int .i64 st.length);have hb1:=ho.heap h3 (by simpa using hne);have hc0:w1.cell? ⟨b,st.length*2,none⟩=some (.string (KP st st.length).1):=(cell_of_row w1 b _ c _ _ hb1).trans (by rw[Nat.mul_comm];exact(h6 _ hl).1);have hc1:w1.cell? ⟨b,st.length*2+1,none⟩=some (.bool (KP st st.length).2):=(cell_of_row w1 b _ c _ _ hb1).trans (by rw[Nat.mul_comm];exact(h6 _ hl).2);have hf0:w1.frozen? ⟨b,st.length*2,none⟩=false:=frozen_of_row w1 b _ c _ hb1;have hf1:w1.frozen? ⟨b,st.length*2+1,none⟩=false:=frozen_of_row w1 b _ c _ hb1;have hP:=af (And.intro (h.push hf hl ho hms (on:=on)) (show ai [b,m] w w1 from ho.mono (by simp)));clear h h3 h4 h5 h6 hf hms ho hs1 hb1 hne;have hb:n.toList.isEmpty=false:=by simpa using hn
 clear hn;cases on
 ·have hu':(t.toList==[79,78,76,73,78,69])=false:=by simpa[KO]using hu
  have hd':(t.toList==[79,70,70,76,73,78,69])=true:=by simpa[rO]using hd rfl
  clear hu hd;go_enter Tryz.func92,Tryz.ntmps92
  go_wp2_with((go_at_call 143;refine(jk _ _ _ hm).mono ?_;rintro e w' ⟨rfl,rfl⟩))
  go_ret
  exact⟨rfl,hP.out.1,(hP.out.2.setCell (by simp) _).setCell (by simp) _⟩
 ·have hu':(t.toList==[79,78,76,73,78,69])=true:=by simpa[KO]using hu
  clear hu hd;go_enter Tryz.func92,Tryz.ntmps92
  go_wp2_with((go_at_call 143;refine(jk _ _ _ hm).mono ?_;rintro e w' ⟨rfl,rfl⟩))
  go_ret
  exact⟨rfl,hP.out.1,(hP.out.2.setCell (by simp) _).setCell (by simp) _⟩
theorem M4(b m:Nat)(st:tu)(w:World)(n t:ByteArray)(h:kM w b m st)(hn:n.toList≠[])(on:Bool)(hu:(t.toList==KO)=on)(hd:on=false->(t.toList==rO)=true)
  (hf:lV st n=none)(hl:4<=st.length):
  Calls Tryz.prog 92 #[.pointer (some ⟨b,0,none⟩),.string n,.string t] w (lW w b m (8,st)):=by
 obtain⟨c,h3,h4,h5,h6⟩:=h.row;have hm:w.cell? ⟨b,8,none⟩=some (.map (some m)):=(cell_of_row w b 8 c _ _ h3).trans h5;have hlk:=h.map.lookup_no (mY Tryz.underlying9) Tryz.underlying144 n (Ff w) (tX hf) true;simp only[if_true]at hlk;have hlen:=h.map.len_run Tryz.underlying144;rw[Fa]at hlen;have hP:=af h;clear h h3 h4 h5 h6 hf;have hb:n.toList.isEmpty=false:=by simpa using hn
 clear hn;cases on
 ·have hu':(t.toList==[79,78,76,73,78,69])=false:=by simpa[KO]using hu
  have hd':(t.toList==[79,70,70,76,73,78,69])=true:=by simpa[rO]using hd rfl
  clear hu hd;go_enter Tryz.func92,Tryz.ntmps92
  go_wp2_with((go_at_call 143;refine(jk _ _ _ hm).mono ?_;rintro e w' ⟨rfl,rfl⟩))
  go_ret
  exact⟨rfl,hP.out,ai.refl _ _⟩
 ·have hu':(t.toList==[79,78,76,73,78,69])=true:=by simpa[KO]using hu
  clear hu hd;go_enter Tryz.func92,Tryz.ntmps92
  go_wp2_with((go_at_call 143;refine(jk _ _ _ hm).mono ?_;rintro e w' ⟨rfl,rfl⟩))
  go_ret
  exact⟨rfl,hP.out,ai.refl _ _⟩
theorem Fg(b m:Nat)(st:tu)(w:World)(n t:ByteArray)(h:kM w b m st)(hn:n.toList≠[])(on:Bool)(hu:(t.toList==KO)=on)(hd:on=false->(t.toList==rO)=true):
  Calls Tryz.prog 92 #[.pointer (some ⟨b,0,none⟩),.string n,.string t] w (lW w b m (MX st n on)):=by
 unfold MX;cases hf:lV st n with
 |some i=>exact Ro b m st w n t h hn on hu hd i hf
 |none=>
  by_cases hl:4<=st.length
  ·simp only[hl,if_true]
   exact M4 b m st w n t h hn on hu hd hf hl
  ·simp only[hl,if_false]
   exact M0 b m st w n t h hn on hu hd hf (by omega)
theorem take_any(b m:Nat)(st:tu)(w:World)(n t:ByteArray)(h:kM w b m st):
  Calls Tryz.prog 92 #[.pointer (some ⟨b,0,none⟩),.string n,.string t] w (lW w b m (kP st n t)):=by
 by_cases h1:n.toList=[]
 ·exact Fe b m st w n t h (.inl h1)
 ·by_cases h2:t.toList=KO
  ·have e:kP st n t=MX st n true:=by simp[kP,h1,h2]
   rw[e];exact Fg b m st w n t h h1 true (by simp[h2]) (by simp)
  ·by_cases h3:t.toList=rO
   ·have e:kP st n t=MX st n false:=by simp only[kP,if_neg h1,if_neg h2,if_pos h3]
    rw[e];exact Fg b m st w n t h h1 false (by simpa using h2) (by simp[h3])
   ·exact Fe b m st w n t h (.inr ⟨h1,h2,h3⟩)
def Wd(w:World)(e:Ending)(w':World):Prop:= ∃b m,e=.returned (.pointer (some ⟨b,0,none⟩))/\kM w' b m []/\w.heap.size<=b/\w.heap.size<=m/\ai [] w w'
theorem Rp(w:World):Calls Tryz.prog 20 #[] w (Wd w):=by
 have hmm:= @run_makeMap Tryz.prog;go_enter Tryz.func20,Tryz.ntmps20
 go_wp2
 go_ret
 refine⟨w.heap.size+1,w.heap.size,rfl,⟨by omega,by simp,⟨_,heap_alloc2_new _ _ _,rfl,rfl,?_⟩,?_⟩,by omega,Nat.le_refl _,((ai.refl _ _).alloc _).alloc _⟩
 ·intro i hi
  match i,hi with
  |0,_=>exact⟨rfl,rfl⟩
  |1,_=>exact⟨rfl,rfl⟩
  |2,_=>exact⟨rfl,rfl⟩
  |3,_=>exact⟨rfl,rfl⟩
 ·exact(dI.made w).of_heap (by rw[Below.heap_alloc _ _ _ (by simp)])
end Go.Proofs.YtedcakchekaemaaGreatDoor
namespace Go.Proofs.YtedcakchekaemaaGreatDoor
open Go.RowKit
variable [Kd]
theorem ab5{P:Program}{ops:Array Oper}{o:Oper}{a:Act}{w:World}{K:Act->World->Prop}{Q:Exit->Act->World->Prop}{E:Prop}(hgd:o.guard=none)(f:FuncId)(args:Array Operand)(tys:Array TypeId)(ho:o.op=.call {callee:=.value (.func f),args:=args,argTypes:=tys})
  {vs:Array Value}(hvs:args.map a.eval=vs)(hent: ∀args w,(callFunc f args).run P w=.ok (.enter f args) w){R:Value->World->Prop}(hC:Calls P f vs w fun e w'=> ∃v,e=.returned v/\R v w')(h: ∀v w',R v w'->K (a.put o.dst v) w'):
  if Region.wanted o (yielded ops a.tmps)=true then Oper.wp P o a w K Q else E:=by
 have hw:Region.wanted o (yielded ops a.tmps)=true:=by simp[Region.wanted,hgd]
 rw[if_pos hw];have hr:(execOp a.eval o).run P w=.ok (.enter f vs) w:=by
  unfold execOp;simp[ho,resolve,invoke,Act.eval,hent,Deferred.ofValue];exact hvs
 unfold Oper.wp;rw[hr,Oper.upon_enter];refine hC.mono ?_;rintro e w' ⟨v,rfl,hR⟩;exact h v w' hR
theorem E9: ∀args w,(callFunc 172 args).run Tryz.prog w=.ok (.enter 172 args) w:=enters_of Tryz.func172 (by kernel_rfl) rfl
def CP(b:Nat)(v:Value)(L':List Bi)(w w':World):Prop:= ∃v',kL w' b v' L'/\ai (bC b v) w w'/\ ∀x∈bC b v',x∈bC b v\/w.heap.size<=x
theorem Rj(b:Nat)(v:Value)(t x:ByteArray)(L:List Bi)(w:World)(h:kL w b v L)(hs:gF L)(ht:t.size<=1048576)(hW:dL w)(hT:ko w)(hM:qV w)(hf:(qP t x L).2.length<=40):
  Calls Tryz.prog 98 #[aN b,.string t,.string x] w fun e w'=>e=.returned (.int .i64 (qP t x L).1)/\CP b v (qP t x L).2 w w':=by
 have cN:=zD b w h.cells.2.1;have cR:=zu t w ht hW hT hM;obtain⟨P,hP⟩: ∃P,qP t x L=P:=⟨_,rfl⟩;rw[hP]at hf⊢;unfold qP at hP;generalize gW t=rk at*;obtain⟨⟨k0,k1⟩,ok⟩:=rk;simp only at cR hP;replace cN:=af cN;replace cR:=af cR;have hh:=af h;clear h hW hT hM;cases ok with
 |false=>
  rw[if_pos rfl]at hP;subst hP;go_enter Tryz.func98,Tryz.ntmps98
  go_wp2_with(go_at_call 114;((with_reducible refine cN.out.mono ?_);rintro e w2 ⟨rfl,rfl⟩))
  refine cR.out.mono ?_;rintro e w2 ⟨rfl,hO2⟩;have hO3:=af (hO2.alloc (.cells #[.string k0,.string k1] 225));clear cN cR hO2;go_wp2_with fail
  go_ret
  exact⟨rfl,v,hh.out.nil' hO3.out,hO3.out.nil,fun y hy=>.inl hy⟩
 |true=>
  simp only[Bool.true_eq_false,if_false]at hP;change Hid _ at hP;go_enter Tryz.func98,Tryz.ntmps98
  go_wp2_with(go_at_call 114;((with_reducible refine cN.out.mono ?_);rintro e w2 ⟨rfl,rfl⟩))
  refine cR.out.mono ?_;rintro e w2 ⟨rfl,hO2⟩;have hA:=(ai.refl [] w2).alloc (.cells #[.string k0,.string k1] 225);have hk3:=heap_alloc_new w2 (.cells #[.string k0,.string k1] 225);have hO3:=hO2.trans hA;have h3:=hh.out.nil' hO3;have hw2:=hO2.size;clear cN cR hO2 hA;go_upto_region 4 with(fail)
  generalize(w2.alloc (.cells #[.string k0,.string k1] 225))=w3 at*;generalize w2.heap.size=kb at*;have cL:=E8 b v (k0,k1) L w3 h3;unfold vO at cL;obtain⟨⟨x0,x1⟩,_⟩:=II hk3;have hkf:kb∉bC b v:=fun hx=>by have:=hh.out.lt kb hx;omega
  change Hid _ at hkf hk3 hw2;replace cL:=af cL;replace hO3:=af hO3;clear h3;go_wp2_with fail
  refine cL.out.mono ?_;rintro e w4 ⟨rfl,v4,hB4,hO4,hv4⟩;have hk4:=hO4.heap hk3.out hkf.out;have uP:ai (bC b v) w w4:=hO3.out.nil.trans hO4;have hfe:bC b v4=bC b v:=by unfold bC;rw[hv4]
  have hs4:gF (dG (k0,k1) L):=pY hs _;have hkl:=lF (k0,k1) L;have aiF:=hB4.few;have ahb:=hh.out.few;generalize dG (k0,k1) L=LK at*;obtain⟨va,vc,rfl⟩:=hB4.l.sl;have d0:=hB4.cells.1;clear cL x0 x1 hO4;by_cases hfull:LK.length=L.length/\40<=LK.length
  ·have hP':=hP.out
   rw[if_pos hfull]at hP';subst hP';have q1:((L.length:Int)-(LK.length:Int)==0)=true:=by simp;omega
   have q2:(40:Int)<=LK.length:=by omega
   change Hid _ at hfe;replace hB4:=af hB4;replace uP:=af uP;clear hfull hf;go_wp2_with fail
   go_ret
   exact⟨rfl,_,hB4.out,uP.out,fun y hy=>.inl (by rw[hfe.out]at hy;exact hy)⟩
  ·have hP':=hP.out
   rw[if_neg hfull]at hP';have cF:=IV b _ (k0,k1) LK w4 hB4 hs4;have hpos:=CO (k0,k1) LK;generalize uK (k0,k1) LK=pos at*;obtain⟨⟨y0,y1⟩,_⟩:=II hk4;change Hid _ at hk4 hfe hpos;replace cF:=af cF;replace uP:=af uP;replace hB4:=af hB4;have hP2:=af hP';clear hP hP';have hgoal:((L.length:Int)-(LK.length:Int)==0)=false\/(((L.length:Int)-(LK.length:Int)==0)=true/\ ¬(40:Int)<=LK.length):=by
    by_cases he:LK.length=L.length
    ·exact .inr ⟨by simp;omega,by omega⟩
    ·refine .inl ?_
     rw[Bool.eq_false_iff];intro hx;have:=LawfulBEq.eq_of_beq hx;omega
   clear hfull;rcases hgoal with q1|⟨q1,q2⟩
   all_goals
    go_wp2_with fail
    refine cF.out.mono ?_;rintro e w5 ⟨⟨has,rfl⟩,aF⟩;have Aw:=hB4.out.nil' aF;have hk5:=aF.heap hk4.out (by simp);have Yk:=uP.out.trans aF.nil;clear cF hB4 hk4 uP aF d0 y0 y1;go_wp2_with fail
    have hf6:LK.length+1<=40:=by
     have:=hf;rw[<-hP2.out]at this;simp only[List.length_append,List.length_take,List.length_drop,List.length_singleton]at this;have:=hpos.out;omega
    obtain⟨p0,_,_⟩:=(Aw.nil' ((ai.refl [] w5).drew)).cells;obtain⟨⟨kd0,kd1⟩,_⟩:=II ((ai.refl [] w5).drew.heap hk5 (by simp));have hAw:=((ai.refl [] w5).alloc (.cells #[.string k0,.string k1,.string x] 227)).drew;have hBA:=Aw.nil' hAw;obtain⟨q0,_,_⟩:=hBA.cells;obtain⟨⟨ke0,ke1⟩,_⟩:=II (hAw.heap hk5 (by simp));have hvl:=Aw.lt;have cI:=Q6 _ LK ⟨k0,k1,x⟩ w5.heap.size pos _ hBA.l (heap_alloc_new w5 (.cells #[.string k0,.string k1,.string x] 227)) (fun e=>by have:=hvl w5.heap.size (by unfold bC;rw[e];simp);omega) (by omega) hpos.out;unfold zq at cI;have hl6:(LK.take pos++[(⟨k0,k1,x⟩:Bi)]++LK.drop pos).length=LK.length+1:=by
     have:=hpos.out;simp only[List.length_append,List.length_take,List.length_drop,List.length_singleton];omega
    have hP3:=hP2.out;clear hP2;generalize(LK.take pos++[(⟨k0,k1,x⟩:Bi)]++LK.drop pos)=LN at*;have hP2:=af hP3;clear hP3;have acV:=af hBA.row;have acW:=af hBA.ap;have aiK:=af hvl;change Hid _ at cI;replace Yk:=af (Yk.trans hAw.nil);change Hid _ at hl6 hf6;have afM:=af (aj Aw.row);clear Aw hBA hvl hAw hk5;go_region_law((go_loud(refine ab5 rfl 172 _ _ (by rfl) (by simp[Act.eval,Act.put]) E9 cI.out ?_));rintro v6 w6 ⟨hS6,bI,hg6⟩;obtain⟨vb6,vd6,rfl⟩:=hS6.sl;have Gn:=bI.heap acV.out (by simpa using acW.out);have ha6:(Value.slice vb6 LN.length vd6).ownBlock≠some b:=(fun e=>by rcases hg6 b e with h4|h4;exact acW.out h4;have:=afM.out;simp at h4;omega);obtain⟨XY,Yl⟩:=kL.set Gn hS6 ha6 (by rw[hl6.out];exact hf6.out);have z6:=cell_of_row _ b 0 _ _ _ Gn;have f6:=frozen_of_row _ b 0 _ _ Gn;replace XY:=af XY;replace Yl:=af (And.intro bI Yl);replace hg6:=af hg6;clear hS6 Gn bI)
    all_goals
     have hsz:=Yk.out.size;have UG:=(Yk.out.trans (Yl.out.1.mono (by intro y hy;rw[<-hfe.out];exact List.mem_cons_of_mem _ hy))).trans (Yl.out.2.mono (by intro y hy;simp at hy;subst hy;simp[bC]));change Hid _ at UG hsz;clear p0 q0 kd0 kd1 ke0 ke1 cI;go_wp2_with fail
     go_ret
     rw[<-hP2.out];refine⟨rfl,_,XY.out,UG.out,fun y hy=>?_⟩;rcases List.mem_cons.1 hy with rfl|hy
     ·exact .inl (by simp[bC])
     ·rcases hg6.out y (Option.mem_toList.1 hy)with h4|h4
      ·refine .inl ?_
       rw[<-hfe.out];unfold bC;rw[h4];simp
      ·exact .inr (Nat.le_trans hsz.out h4)
theorem Br(b:Nat)(v:Value)(t:ByteArray)(L:List Bi)(w:World)(h:kL w b v L)(ht:t.size<=1048576)(hW:dL w)(hT:ko w)(hM:qV w):
  Calls Tryz.prog 99 #[aN b,.string t] w fun e w'=>(∃n:Int,e=.returned (.int .i64 n))/\CP b v (oO t L) w w':=by
 have cN:=zD b w h.cells.2.1;have cR:=zu t w ht hW hT hM;unfold oO;generalize gW t=rk at*;obtain⟨⟨k0,k1⟩,ok⟩:=rk;simp only at cR⊢;replace cN:=af cN;replace cR:=af cR;have hh:=af h;clear h hW hT hM;cases ok with
 |false=>
  rw[if_pos rfl];go_enter Tryz.func99,Tryz.ntmps99
  go_wp2_with(go_at_call 114;((with_reducible refine cN.out.mono ?_);rintro e w2 ⟨rfl,rfl⟩))
  refine cR.out.mono ?_;rintro e w2 ⟨rfl,hO2⟩;have hO3:=af (hO2.alloc (.cells #[.string k0,.string k1] 225));clear cN cR hO2;go_wp2_with fail
  go_ret
  exact⟨⟨_,rfl⟩,v,hh.out.nil' hO3.out,hO3.out.nil,fun y hy=>.inl hy⟩
 |true=>
  rw[if_neg (by simp)];go_enter Tryz.func99,Tryz.ntmps99
  go_wp2_with(go_at_call 114;((with_reducible refine cN.out.mono ?_);rintro e w2 ⟨rfl,rfl⟩))
  refine cR.out.mono ?_;rintro e w2 ⟨rfl,hO2⟩;have hA:=(ai.refl [] w2).alloc (.cells #[.string k0,.string k1] 225);have hk3:=heap_alloc_new w2 (.cells #[.string k0,.string k1] 225);have hO3:=hO2.trans hA;have h3:=hh.out.nil' hO3;clear cN cR hO2 hA;go_upto_region 4 with(fail)
  generalize(w2.alloc (.cells #[.string k0,.string k1] 225))=w3 at*;generalize w2.heap.size=kb at*;have cL:=E8 b v (k0,k1) L w3 h3;unfold vO at cL;obtain⟨⟨x0,x1⟩,_⟩:=II hk3;replace cL:=af cL;replace hO3:=af hO3;clear h3 hk3;go_wp2_with fail
  refine cL.out.mono ?_;rintro e w4 ⟨rfl,v4,hB4,hO4,hv4⟩;change Hid _ at hB4;replace hO4:=af (hO3.out.nil.trans hO4);change Hid _ at hv4;clear cL x0 x1;go_wp2_with fail
  go_ret
  exact⟨⟨_,rfl⟩,v4,hB4.out,hO4.out,fun y hy=>.inl (by unfold bC at hy⊢;rw[hv4.out]at hy;exact hy)⟩
end Go.Proofs.YtedcakchekaemaaGreatDoor
