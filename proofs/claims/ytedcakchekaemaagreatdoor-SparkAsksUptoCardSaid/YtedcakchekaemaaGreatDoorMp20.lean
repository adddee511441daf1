/- Contracts of the program, part 20. -/
import Derived.Test.YtedcakchekaemaaGreatDoorMp03
import Derived.Test.YtedcakchekaemaaGreatDoorMp02
import Derived.Deep.RegionLaw
set_option maxRecDepth 100000
set_option maxHeartbeats 16000000
set_option linter.all false
namespace Go.Proofs.YtedcakchekaemaaGreatDoor
open Go.RowKit
def dm(k:ByteArray×ByteArray):Value:=.agg #[.string k.1,.string k.2]
abbrev aN(b:Nat):Value:=.pointer (some ⟨b,0,none⟩)
abbrev Cb:Value:=.string ⟨#[]⟩
theorem LD(W:World):Calls Tryz.prog 21 #[] W fun e w'=> ∃s,e=.returned (aN s)/\w'.heap[s]?=some (.cells #[.slice none 0 0,.bool true] 150 (0,0))/\ai [] W w':=by
 go_enter Tryz.func21,Tryz.ntmps21
 go_wp2_with fail
 go_ret
 exact⟨_,rfl,heap_alloc_new _ _,(ai.refl _ _).alloc _⟩
def qY(w:World)(h hm:Nat):Prop:=w.heap[h]?=some (.cells #[Cb,.bool false,Cb,.bool false,Cb,.bool false,Cb,.bool false,.map (some hm)] 147 (0,0))/\dI Value.string w hm []
theorem qY.own{w w':World}{h hm:Nat}(H:qY w h hm)(ho:ai [] w w'):qY w' h hm:=⟨ho.heap H.1 (by simp),H.2.own ho (by simp)⟩
theorem Vo(W:World):Calls Tryz.prog 20 #[] W fun e w'=> ∃s m,e=.returned (aN s)/\qY w' s m/\ai [] W w':=by
 have hmm:= @run_makeMap Tryz.prog;go_enter Tryz.func20,Tryz.ntmps20
 go_wp2_with fail
 go_ret
 exact⟨W.heap.size+1,W.heap.size,rfl,⟨heap_alloc2_new _ _ _,(dI.made W).of_heap (by rw[Below.heap_alloc _ _ _ (by simp)])⟩,((ai.refl _ _).alloc _).alloc _⟩
structure SN (w:World) (p m h hm bb r:Nat):Prop where
 sp:w.heap[p]?=some (.cells #[.map (some m),aN h,aN bb,aN r,.int .i64 0] 73 (0,0))
 nm:dI dm w m []
 ho:qY w h hm
 bi:w.heap[bb]?=some (.cells #[.slice none 0 0,.bool true] 150 (0,0))
 ra:w.heap[r]?=some (.cells #[.int .i64 10,.slice none 0 0,.bool true] 143 (0,0))
theorem SN.own{w w':World}{p m h hm bb r:Nat}(H:SN w p m h hm bb r)(ho:ai [] w w'):SN w' p m h hm bb r:=
 ⟨ho.heap H.sp (by simp),H.nm.own ho (by simp),H.ho.own ho,ho.heap H.bi (by simp),ho.heap H.ra (by simp)⟩
structure Mk where
 blk:Nat
 key:ByteArray
 at_:Int
def Mk.ptr(x:Mk):Value:=.pointer (some ⟨x.blk,0,none⟩)
def Mk.dflt:Mk:=⟨0,ByteArray.empty,0⟩
structure tL (w:World) (v:Value) (ms:List Mk):Prop where
 own:w.ownsRow 0 291 1 v ms.length (ms.map Mk.ptr)
 marks: ∀x∈ms,w.heap[x.blk]?=some (.cells #[.string x.key,.int .i64 x.at_] 293 (0,0))/\0<=x.at_/\x.at_<=1073741824
 apart: ∀x∈ms,v.ownBlock≠some x.blk
theorem tL.shape{w:World}{v:Value}{ms:List Mk}(h:tL w v ms)(hp:0<ms.length): ∃g cap cur,v=.slice (some ⟨g,0,none⟩) ms.length cap/\w.heap[g]?=some (.cells cur 291 (0,0))/\ms.length<=cap/\cur.size=cap/\
  ∀i,i<ms.length->cur[i]?=some (ms.getD i Mk.dflt).ptr:=by
 obtain⟨h1,h2|⟨g,cap,cur,hv,_,hg,hn,_,hs,ht⟩⟩:=h.own
 ·omega
 ·refine⟨g,cap,cur,hv,hg,hn,by simpa using hs,fun i hi=>?_⟩
  have:(cur.toList.take (ms.length*1))[i]?=(ms.map Mk.ptr)[i]?:=by rw[ht]
  rw[List.getElem?_take_of_lt (by omega)]at this;simpa[List.getD,List.getElem?_eq_getElem hi]using this
theorem qZ(v:Value)(ms:List Mk)(i j:Nat)(w:World)(h:tL w v ms)(hi:i<ms.length)(hj:j<ms.length)(hl:ms.length<=1000):
  Calls Tryz.prog 373 #[v,.int .i64 i,.int .i64 j] w fun e w'=>e=.returned (.bool (decide ((ms.getD i Mk.dflt).at_<(ms.getD j Mk.dflt).at_)))/\ai [] w w':=by
 obtain⟨g,cap,cur,rfl,hg,hn,hs,hc⟩:=h.shape (by omega);have mi:ms.getD i Mk.dflt∈ms:=by simp[List.getD,List.getElem?_eq_getElem hi]
 have mj:ms.getD j Mk.dflt∈ms:=by simp[List.getD,List.getElem?_eq_getElem hj]
 have ci:w.cell? ⟨g,i,none⟩=some (.pointer (some ⟨(ms.getD i Mk.dflt).blk,0,none⟩)):=(cell_of_row w g i _ _ _ hg).trans (hc i hi);have cj:w.cell? ⟨g,j,none⟩=some (.pointer (some ⟨(ms.getD j Mk.dflt).blk,0,none⟩)):=(cell_of_row w g j _ _ _ hg).trans (hc j hj);have di:w.cell? ⟨(ms.getD i Mk.dflt).blk,1,none⟩=some (.int .i64 (ms.getD i Mk.dflt).at_):=cell_of_row w _ 1 _ _ _ (h.marks _ mi).1;have dj:w.cell? ⟨(ms.getD j Mk.dflt).blk,1,none⟩=some (.int .i64 (ms.getD j Mk.dflt).at_):=cell_of_row w _ 1 _ _ _ (h.marks _ mj).1;generalize ms.getD i Mk.dflt=xi at*;generalize ms.getD j Mk.dflt=xj at*;have b1:(0:Int)<=i:=by omega
 have b2:(i:Int)<ms.length:=by omega
 have b3:(0:Int)<=j:=by omega
 have b4:(j:Int)<ms.length:=by omega
 clear h hc mi mj hg hs;go_enter Tryz.func373,Tryz.ntmps373
 go_wp2_with fail
 go_quiet(fail)
 go_wp2_with fail
 go_ret
 exact⟨rfl,(ai.refl _ _).drewN _⟩
def swp(ms:List Mk)(i j:Nat):List Mk:=(ms.set i (ms.getD j Mk.dflt)).set j (ms.getD i Mk.dflt)
theorem pJ(ms:List Mk)(i j:Nat):(swp ms i j).length=ms.length:=by simp[swp]
theorem LP(g:Nat)(n cap:Nat)(i j:Nat)(xi xj:Nat)(w:World)(hi:i<n)(hj:j<n)(hij:i≠j)
  (ci:w.cell? ⟨g,i,none⟩=some (.pointer (some ⟨xi,0,none⟩)))(cj:w.cell? ⟨g,j,none⟩=some (.pointer (some ⟨xj,0,none⟩)))(fi: ∀o,w.frozen? ⟨g,o,none⟩=false):
  Calls Tryz.prog 374 #[.slice (some ⟨g,0,none⟩) n cap,.int .i64 i,.int .i64 j] w fun e w'=>e=.returned (.tuple #[])/\w'.heap=((w.setCell ⟨g,i,none⟩ (.pointer (some ⟨xj,0,none⟩))).setCell ⟨g,j,none⟩ (.pointer (some ⟨xi,0,none⟩))).heap/\ai [g] w w':=by
 have b1:(0:Int)<=i:=by omega
 have b2:(i:Int)<n:=by omega
 have b3:(0:Int)<=j:=by omega
 have b4:(j:Int)<n:=by omega
 have f1:=fi i;have f2:=fi j;have hij': ¬j=i:=fun e=>hij e.symm
 clear fi;go_enter Tryz.func374,Tryz.ntmps374
 go_wp2_with fail
 go_region
 all_goals
  go_end0
  exact⟨rfl,rfl,(((ai.refl [g] w).setCell (by simp) _).setCell (by simp) _).drew⟩
theorem rf(v:Value)(ms:List Mk)(i j:Nat)(w:World)(h:tL w v ms)(hi:i<ms.length)(hj:j<ms.length)(hij:i≠j):
  Calls Tryz.prog 374 #[v,.int .i64 i,.int .i64 j] w fun e w'=>e=.returned (.tuple #[])/\tL w' v (swp ms i j)/\ai v.ownBlock.toList w w':=by
 obtain⟨g,cap,cur,rfl,hg,hn,hs,hc⟩:=h.shape (by omega);have mi:ms.getD i Mk.dflt∈ms:=by simp[List.getD,List.getElem?_eq_getElem hi]
 have mj:ms.getD j Mk.dflt∈ms:=by simp[List.getD,List.getElem?_eq_getElem hj]
 have ci:=(cell_of_row w g i _ _ _ hg).trans (hc i hi);have cj:=(cell_of_row w g j _ _ _ hg).trans (hc j hj);refine(LP g ms.length cap i j _ _ w hi hj hij ci cj (fun o=>frozen_of_row w g o _ _ hg)).mono ?_;rintro e w' ⟨rfl,hh,ho⟩;have hb: ∀x∈swp ms i j,x∈ms:=by
  intro x hx;unfold swp at hx;rcases List.mem_or_eq_of_mem_set hx with h1|rfl
  ·rcases List.mem_or_eq_of_mem_set h1 with h2|rfl
   ·exact h2
   ·exact mj
  ·exact mi
 refine⟨rfl,⟨?_,fun x hx=>?_,fun x hx=>h.apart x (hb x hx)⟩,ho⟩
 ·obtain⟨h1,h2⟩:=h.own
  refine⟨by simp[pJ],.inr ⟨g,cap,(cur.setIfInBounds i (ms.getD j Mk.dflt).ptr).setIfInBounds j (ms.getD i Mk.dflt).ptr,by rw[pJ],Nat.zero_le _,?_,by rw[pJ];exact hn,?_,by simpa using hs,?_⟩⟩
  ·rw[hh]
   exact heap_setCell_same _ _ _ _ _ _ (heap_setCell_same _ _ _ _ _ _ hg)
  ·rcases h2 with⟨h3,_⟩|⟨g',cap',cur',h3,_,h4,_,h5,_⟩
   ·simp at h3
   ·simp only[Value.slice.injEq]at h3
    omega
  ·rw[pJ,Nat.mul_one]
   apply List.ext_getElem?;intro k;by_cases hk:k<ms.length
   ·rw[List.getElem?_take_of_lt hk]
    have hk2:=hc k hk;have hkc:k<cur.size:=by omega
    simp only[Array.getElem?_toList,Array.getElem?_setIfInBounds,Array.size_setIfInBounds,List.getElem?_map,swp,List.getElem?_set,List.length_set];by_cases h1:j=k
    ·subst h1
     simp[hkc,hj]
    ·by_cases h2:i=k
     ·subst h2
      simp[hkc,hi,h1]
     ·simp only[h1,h2,if_false]
      rw[hk2];simp[List.getD,List.getElem?_eq_getElem hk]
   ·rw[List.getElem?_eq_none (by simp;omega),List.getElem?_eq_none (by simp[pJ];omega)]
 ·refine⟨?_,(h.marks x (hb x hx)).2⟩
  exact ho.heap (h.marks x (hb x hx)).1 (by
   have:=h.apart x (hb x hx);simp[Value.ownBlock]at this⊢;exact fun e=>this e.symm)
structure bT (w:World) (rb:Nat) (gap:Int) (v:Value) (ms:List Mk):Prop where
 row:w.heap[rb]?=some (.cells #[.int .i64 gap,v,.bool true] 143 (0,0))
 marks:tL w v ms
 ne:v.ownBlock≠some rb
 apart: ∀x∈ms,x.blk≠rb
def Vp(w:World)(rb:Nat)(gap:Int)(v:Value)(ms:List Mk)(e:Ending)(w':World):Prop:=
 ∃v' x,e=.returned (.iface 291 x)/\bT w' rb gap v' ms.dropLast/\v'.ownBlock=v.ownBlock/\ai [rb] w w'
theorem Kk(rb:Nat)(gap:Int)(v:Value)(ms:List Mk)(w:World)(h:bT w rb gap v ms)(hn:0<ms.length)(hl:ms.length<=1000):
  Calls Tryz.prog 376 #[.pointer (some ⟨rb,1,none⟩)] w (Vp w rb gap v ms):=by
 obtain⟨g,cap,cur,rfl,hg,hnc,hs,hc⟩:=h.marks.shape hn;have hrow:=h.row;have c1:w.cell? ⟨rb,1,none⟩=some (.slice (some ⟨g,0,none⟩) ms.length cap):=cell_of_row w rb 1 _ _ _ hrow;have f1:w.frozen? ⟨rb,1,none⟩=false:=frozen_of_row w rb _ _ _ hrow;have cl:=(cell_of_row w g (ms.length-1) _ _ _ hg).trans (hc (ms.length-1) (by omega));have Y4:cap<=maxLen:=by
  obtain⟨_,h2|⟨g',cap',cur',h3,_,h4,_,h5,_⟩⟩:=h.marks.own
  ·simp at h2
  ·simp only[Value.slice.injEq]at h3
   obtain⟨_,_,h6⟩:=h3;omega
 have hfin:bT (w.setCell ⟨rb,1,none⟩ (.slice (some ⟨g,0,none⟩) (ms.length-1) cap)) rb gap (.slice (some ⟨g,0,none⟩) (ms.length-1) cap) ms.dropLast:=by
  have hne:=h.ne;simp only[Value.ownBlock,ne_eq,Option.some.injEq]at hne;have hO:ai [rb] w (w.setCell ⟨rb,1,none⟩ (.slice (some ⟨g,0,none⟩) (ms.length-1) cap)):=(ai.refl _ _).setCell (by simp) _;refine⟨heap_setCell_same _ _ _ _ _ _ hrow,⟨?_,fun x hx=>?_,fun x hx=>h.marks.apart x ((List.dropLast_sublist ms).subset hx)⟩,by simpa[Value.ownBlock]using hne,fun x hx=>h.apart x ((List.dropLast_sublist ms).subset hx)⟩
  ·refine⟨by simp,.inr ⟨g,cap,cur,by simp,Nat.zero_le _,hO.heap hg (by simpa using hne),by simp;omega,Y4,by simpa using hs,?_⟩⟩
   apply List.ext_getElem?;intro k;by_cases hk:k<ms.length-1
   ·rw[List.getElem?_take_of_lt (by simpa using hk)]
    simp only[Array.getElem?_toList,hc k (by omega),List.getElem?_map,List.getElem?_dropLast,hk,if_true];simp[List.getD,List.getElem?_eq_getElem (show k<ms.length by omega)]
   ·rw[List.getElem?_eq_none (by simp;omega),List.getElem?_eq_none (by simp;omega)]
  ·have hx':=(List.dropLast_sublist ms).subset hx
   exact⟨hO.heap (h.marks.marks x hx').1 (by simpa using h.apart x hx'),(h.marks.marks x hx').2⟩
 change Hid _ at hfin;obtain⟨n,hN⟩: ∃n,ms.length=n+1:=⟨ms.length-1,by omega⟩;rw[hN]at c1 cl hfin hl hnc⊢;simp only[Nat.add_sub_cancel]at cl hfin;generalize(ms.getD n Mk.dflt)=xl at cl;have cl:w.cell? ⟨g,n,none⟩=some (.pointer (some ⟨xl.blk,0,none⟩)):=cl;clear h hrow hg hs hc hN hn;unfold maxLen at Y4;go_enter Tryz.func376,Tryz.ntmps376
 go_wp2_with fail
 go_ret
 exact⟨_,_,rfl,hfin.out,rfl,(ai.refl _ _).setCell (by simp) _⟩
def D8(w:World)(rb:Nat)(gap:Int)(v:Value)(ms:List Mk)(x:Mk)(e:Ending)(w':World):Prop:=
 ∃v',e=.returned (.tuple #[])/\bT w' rb gap v' (ms++[x])/\(v'.ownBlock=v.ownBlock\/ ∃g,v'.ownBlock=some g/\w.heap.size<=g)/\ai (rb::v.ownBlock.toList) w w'
theorem ai.grown{S:List Nat}{a b c:World}{row:Option Nat}(h:ai S a b)(hg:b.grownBy c row)(hr: ∀k,row=some k->k∈S\/a.heap.size<=k):ai S a c:=
 ⟨hg.os.trans h.os,hg.tape.trans h.tape,hg.output.trans h.output,Nat.le_trans h.size hg.size,fun k hk hn=>by
  rw[hg.block k (Nat.lt_of_lt_of_le hk h.size) (fun e=>by rcases hr k e.symm with h1|h1;exact hn h1;omega)];exact h.block k hk hn⟩
theorem PS{w w1:World}{rb g cap n H:Nat}{gap:Int}{v:Value}{ms:List Mk}{x:Mk}{C:Obj}(h:bT w rb gap v ms)
  (hx:w.heap[x.blk]?=some (.cells #[.string x.key,.int .i64 x.at_] 293 (0,0)))(hxb:0<=x.at_/\x.at_<=1073741824)(hx1:x.blk≠rb)(hx2:v.ownBlock≠some x.blk)
  (hn:ms.length=n)(hH:w.heap.size=H)(hown:w1.ownsRow 0 291 1 (.slice (some ⟨g,0,none⟩) (n+1) cap) (n+1) (ms.map Mk.ptr++[.pointer (some ⟨x.blk,0,none⟩)]))
  (hgrow:(w.alloc C).drew.grownBy w1 v.ownBlock)(hat:v.ownBlock=some g\/g=H+1):
  D8 w rb gap v ms x (.returned (.tuple #[])) (w1.setCell ⟨rb,1,none⟩ (.slice (some ⟨g,0,none⟩) (n+1) cap)):=by
 have aL:ai (rb::v.ownBlock.toList) w w1:=(((ai.refl _ w).alloc C).drew).grown hgrow (by intro k hk;rw[hk];simp);have hO2:ai v.ownBlock.toList w w1:=(((ai.refl _ w).alloc C).drew).grown hgrow (by intro k hk;rw[hk];simp);have acg:=hO2.heap h.row (by simpa using h.ne);have ach:g≠rb:=by
  rcases hat with h1|h1
  ·intro e;exact h.ne (by rw[h1,e])
  ·have:=aj h.row;omega
 have hall: ∀y∈ms++[x],w.heap[y.blk]?=some (.cells #[.string y.key,.int .i64 y.at_] 293 (0,0))/\(0<=y.at_/\y.at_<=1073741824)/\y.blk≠rb/\v.ownBlock≠some y.blk:=by
  intro y hy;rcases List.mem_append.1 hy with h1|h1
  ·exact⟨(h.marks.marks y h1).1,(h.marks.marks y h1).2,h.apart y h1,h.marks.apart y h1⟩
  ·rw[List.mem_singleton.1 h1];exact⟨hx,hxb,hx1,hx2⟩
 have hO3:ai [rb] w1 (w1.setCell ⟨rb,1,none⟩ (.slice (some ⟨g,0,none⟩) (n+1) cap)):=(ai.refl _ _).setCell (by simp) _;refine⟨_,rfl,⟨heap_setCell_same _ _ _ _ _ _ acg,⟨?_,fun y hy=>?_,fun y hy=>?_⟩,by simpa[Value.ownBlock]using ach,fun y hy=>(hall y hy).2.2.1⟩,?_,aL.trans (hO3.mono (by simp))⟩
 ·have e:(ms++[x]).length=n+1:=by simp[hn]
  have e2:(ms++[x]).map Mk.ptr=ms.map Mk.ptr++[.pointer (some ⟨x.blk,0,none⟩)]:=by simp[Mk.ptr]
  rw[e,e2];obtain⟨h1,h2|⟨g',cap',cur',h3,h4,h5,h6⟩⟩:=hown
  ·exact⟨h1,.inl h2⟩
  ·simp only[Value.slice.injEq,Option.some.injEq,Addr.mk.injEq,and_true,true_and]at h3
   obtain⟨rfl,rfl⟩:=h3;exact⟨h1,.inr ⟨g,cap,cur',rfl,h4,hO3.heap h5 (by simpa using ach),h6⟩⟩
 ·refine⟨hO3.heap (hO2.heap (hall y hy).1 ?_) (by simpa using(hall y hy).2.2.1),(hall y hy).2.1⟩
  have:=(hall y hy).2.2.2;cases hv:v.ownBlock with
  |none=>simp
  |some k=>rw[hv]at this;simp at this⊢;exact fun e=>this e.symm
 ·simp only[Value.ownBlock,ne_eq,Option.some.injEq]
  intro e;rcases hat with h1|h1
  ·exact(hall y hy).2.2.2 (by rw[h1,e])
  ·have:=aj (hall y hy).1;omega
 ·rcases hat with h1|h1
  ·exact .inl (by rw[h1];rfl)
  ·exact .inr ⟨g,rfl,by omega⟩
theorem PU(a:Addr)(w:World):(Instr.typeAssert (.iface 291 (.pointer (some a))) 20 291 false).run Tryz.prog w=.ok (.pointer (some a)) w:=by kernel_rfl
theorem Zm:(Tryz.prog.info? 291).map (fun i=>(i.zero,i.size,i.bytes))=some (some (.pointer none),1,8):=by kernel_rfl
theorem PW(rb:Nat)(gap:Int)(v:Value)(ms:List Mk)(x:Mk)(w:World)(h:bT w rb gap v ms)(hl:ms.length<=1000)
  (hx:w.heap[x.blk]?=some (.cells #[.string x.key,.int .i64 x.at_] 293 (0,0)))(hxb:0<=x.at_/\x.at_<=1073741824)(hx1:x.blk≠rb)(hx2:v.ownBlock≠some x.blk):
  Calls Tryz.prog 377 #[.pointer (some ⟨rb,1,none⟩),.iface 291 (.pointer (some ⟨x.blk,0,none⟩))] w (D8 w rb gap v ms x):=by
 obtain⟨i0,hi,hz0,hz1,hz2⟩:=info_parts Zm;have hrow:=h.row;have c1:w.cell? ⟨rb,1,none⟩=some v:=cell_of_row w rb 1 _ _ _ hrow;have hown:=h.marks.own;have hrb:=aj hrow;have hxl:=aj hx;obtain⟨H,hH⟩: ∃H,w.heap.size=H:=⟨_,rfl⟩;change Hid _ at hH;generalize hxs:ms.map Mk.ptr=xs at hown;generalize hnn:ms.length=n at hown hl;have hK:=h;clear hrow h;change Hid _ at hK;have aci:=hK.out.ne;have hK1: ∀w1,((w.alloc (.cells #[.pointer (some ⟨x.blk,0,none⟩)] 291)).drew).grownBy w1 v.ownBlock->w1.heap[rb]?=some (.cells #[.int .i64 gap,v,.bool true] 143 (0,0)):=fun w1 hg=>by
  rw[hg.block rb (by simp;omega) aci.symm];show(w.alloc _).heap[rb]?=_;rw[Below.heap_alloc _ _ _ hrb];exact hK.out.row
 change Hid _ at hK1;have hown1:((w.alloc (.cells #[.pointer (some ⟨x.blk,0,none⟩)] 291)).drew).ownsRow 0 291 1 v n xs:=(hown.alloc _).drew;clear aci hown;change Hid _ at hown1 hnn;replace hxs:=af hxs;have hnw:((w.alloc (.cells #[.pointer (some ⟨x.blk,0,none⟩)] 291)).drew).heap[H]?=some (.cells #[.pointer (some ⟨x.blk,0,none⟩)] 291 (0,0)):=by rw[<-hH.out];exact heap_alloc_new _ _
 have hnews:=World.news_of_block hnw;clear hnw;change Hid _ at hnews;have hsw:w.heap.size=H:=hH.out;have hta:=PU ⟨x.blk,0,none⟩;have c1a:(w.alloc (.cells #[.pointer (some ⟨x.blk,0,none⟩)] 291)).cell? ⟨rb,1,none⟩=some v:=(World.cell?_alloc_lt _ _ _ hrb).trans c1;go_enter Tryz.func377,Tryz.ntmps377
 go_wp2_with fail
 go_region_law((go_loud(refine step_append_lies _ (by rfl) (.tmp 7) (.tmp 10) 141 (by rfl) 0 291 i0 (.pointer none) 1 8 Tryz.underlying141 hi hz0 hz1 hz2 rfl (by omega) v n xs (by rfl) hown1.out ⟨H,0,none⟩ 1 1 [.pointer (some ⟨x.blk,0,none⟩)] (by rfl) rfl hnews.out (by simp[Value.oneCell']) (by omega) (by unfold maxLen;omega) (by omega) (Nat.zero_le _) (H+1) (by simp[hH.out]) ?_);intro g cap w1 hown2 hgrow hat hlt;have c2:w1.cell? ⟨rb,1,none⟩=some v:=cell_of_row w1 rb 1 _ _ _ (hK1.out w1 hgrow);have f2:w1.frozen? ⟨rb,1,none⟩=false:=frozen_of_row w1 rb _ _ _ (hK1.out w1 hgrow)))
 all_goals
  go_wp2_with fail
  go_end0
  exact PS hK.out hx hxb hx1 hx2 hnn.out hH.out (hxs.out.symm▸hown2) hgrow hat
theorem Zn(n:Nat)(a:Addr)(w:World):(method (n+1) 286 (.pointer (some a)) "Push").run Tryz.prog w=.ok (377,.pointer (some a)) w:=by kernel_rfl
theorem PX(n:Nat)(a:Addr)(w:World):(method (n+1) 286 (.pointer (some a)) "Pop").run Tryz.prog w=.ok (376,.pointer (some a)) w:=by kernel_rfl
theorem Zo(n:Nat)(a:Addr)(w:World):(method (n+1) 286 (.pointer (some a)) "Len").run Tryz.prog w=(Sem.load .plain a fun v=>Sem.pure (372,v)).run Tryz.prog w:=by kernel_rfl
theorem YL(n:Nat)(a:Addr)(v:Value)(w:World)(h:w.cell? a=some v):(method (n+1) 286 (.pointer (some a)) "Len").run Tryz.prog w=.ok (372,v) w:=by
 rw[Zo];simp[Sem.run,h]
theorem Vq(n:Nat)(a:Addr)(w:World):(method (n+1) 286 (.pointer (some a)) "Less").run Tryz.prog w=(Sem.load .plain a fun v=>Sem.pure (373,v)).run Tryz.prog w:=by kernel_rfl
theorem G6(n:Nat)(a:Addr)(v:Value)(w:World)(h:w.cell? a=some v):(method (n+1) 286 (.pointer (some a)) "Less").run Tryz.prog w=.ok (373,v) w:=by
 rw[Vq];simp[Sem.run,h]
theorem Vr(n:Nat)(a:Addr)(w:World):(method (n+1) 286 (.pointer (some a)) "Swap").run Tryz.prog w=(Sem.load .plain a fun v=>Sem.pure (374,v)).run Tryz.prog w:=by kernel_rfl
theorem yT(n:Nat)(a:Addr)(v:Value)(w:World)(h:w.cell? a=some v):(method (n+1) 286 (.pointer (some a)) "Swap").run Tryz.prog w=.ok (374,v) w:=by
 rw[Vr];simp[Sem.run,h]
def bF(n:Nat)(ms ms':List Mk):Prop:=ms'.Perm ms/\ ∀k,n<=k->ms'[k]?=ms[k]?
theorem bF.refl(n:Nat)(ms:List Mk):bF n ms ms:=⟨List.Perm.refl _,fun _ _=>rfl⟩
theorem bF.trans{n:Nat}{a b c:List Mk}(h:bF n a b)(k:bF n b c):bF n a c:=⟨k.1.trans h.1,fun i hi=>(k.2 i hi).trans (h.2 i hi)⟩
theorem bF.mono{n n':Nat}{a b:List Mk}(h:bF n a b)(hn:n<=n'):bF n' a b:=⟨h.1,fun i hi=>h.2 i (by omega)⟩
theorem bF.len{n:Nat}{a b:List Mk}(h:bF n a b):b.length=a.length:=h.1.length_eq
theorem yU(ms:List Mk)(i j:Nat)(hi:i<ms.length)(hj:j<ms.length):(swp ms i j).Perm ms:=by
 unfold swp;simp only[List.getD,List.getElem?_eq_getElem hi,List.getElem?_eq_getElem hj,Option.getD_some];exact List.set_set_perm hi hj
theorem bF.swp{n:Nat}(ms:List Mk)(i j:Nat)(hi:i<n)(hj:j<n)(hn:n<=ms.length):bF n ms (swp ms i j):=by
 refine⟨yU ms i j (by omega) (by omega),fun k hk=>?_⟩;unfold Proofs.YtedcakchekaemaaGreatDoor.swp;rw[List.getElem?_set_ne (by omega),List.getElem?_set_ne (by omega)]
theorem bT.withMarks{w w':World}{rb:Nat}{gap:Int}{v:Value}{ms ms':List Mk}(h:bT w rb gap v ms)(hm:tL w' v ms')(hp:ms'.Perm ms)(ho:ai v.ownBlock.toList w w'):bT w' rb gap v ms':=
 ⟨ho.heap h.row (by simpa using h.ne),hm,h.ne,fun x hx=>h.apart x (hp.mem_iff.1 hx)⟩
theorem bT.own{S:List Nat}{w w':World}{rb:Nat}{gap:Int}{v:Value}{ms:List Mk}(h:bT w rb gap v ms)(ho:ai S w w')(h1:rb∉S)(h2: ∀g,v.ownBlock=some g->g∉S)(h3: ∀x∈ms,x.blk∉S):bT w' rb gap v ms:=by
 refine⟨ho.heap h.row h1,⟨?_,fun x hx=>⟨ho.heap (h.marks.marks x hx).1 (h3 x hx),(h.marks.marks x hx).2⟩,h.marks.apart⟩,h.ne,h.apart⟩;obtain⟨q1,q2|⟨g,cap,cur,q3,q4,q5,q6⟩⟩:=h.marks.own
 ·exact⟨q1,.inl q2⟩
 ·exact⟨q1,.inr ⟨g,cap,cur,q3,q4,ho.heap q5 (h2 g (by rw[q3];rfl)),q6⟩⟩
theorem bT.nil{w w':World}{rb:Nat}{gap:Int}{v:Value}{ms:List Mk}(h:bT w rb gap v ms)(ho:ai [] w w'):bT w' rb gap v ms:=h.own ho (by simp) (by simp) (by simp)
def D9(w:World)(rb:Nat)(gap:Int)(v:Value)(n:Nat)(ms:List Mk)(r:Value)(e:Ending)(w':World):Prop:=
 ∃ms',e=.returned r/\bT w' rb gap v ms'/\bF n ms ms'/\ai v.ownBlock.toList w w'
theorem PY(rb:Nat)(gap:Int)(v:Value)(ms:List Mk)(j:Nat)(w:World)(h:bT w rb gap v ms)(hj:j<ms.length)(hl:ms.length<=1000):
  Calls Tryz.prog 232 #[.iface 286 (.pointer (some ⟨rb,1,none⟩)),.int .i64 j] w (D9 w rb gap v (j+1) ms (.tuple #[])):=by
 change Hid _ at h;go_enter Tryz.func232,Tryz.ntmps232
 go_wp2_with fail
 go_loopg[1] j (fun g s1 wr=> ∃(ms':List Mk),g<=j/\s1=.int .i64 g/\bT wr rb gap v ms'/\bF (j+1) ms ms'/\ai v.ownBlock.toList w wr)
 case atStart=>exact⟨ms,Nat.le_refl _,rfl,h.out,bF.refl _ _,ai.refl _ _⟩
 case round=>
  obtain⟨ms',hg,rfl,hR,hS,hO⟩:=hrel;have c1:wr.cell? ⟨rb,1,none⟩=some v:=cell_of_row wr rb 1 _ _ _ hR.row;by_cases hk:gk=0
  ·subst hk
   go_wp2_with fail
   go_end0
   exact⟨ms',rfl,hR,hS,hO⟩
  ·obtain⟨k,rfl⟩: ∃k,gk=k+1:=⟨gk-1,by omega⟩
   obtain⟨i,hi⟩: ∃i:Nat,(k:Int)/2=i:=⟨k/2,by omega⟩;have hik:i<=k:=by omega
   have hlen:=hS.len;have hm1:=fun n=>G6 n _ v wr c1
   have T:=qZ v ms' (k+1) i wr hR.marks (by omega) (by omega) (by omega);generalize decide ((ms'.getD (k+1) Mk.dflt).at_<(ms'.getD i Mk.dflt).at_)=B at T
   push_cast at T⊢
   have hne:(i:Int)≠(k:Int)+1:=by omega
   have hneb:((i:Int)==(k:Int)+1)=false:=by simpa using hne
   replace T:=af T;replace hR:=af hR;go_wp2_with fail
   refine T.out.mono ?_;rintro e w2 ⟨rfl,hO2⟩;have hR2:=hR.out.nil hO2;have hO3:=hO.trans hO2.nil;cases B
   ·go_wp2_with fail
    go_end0
    exact⟨ms',rfl,hR2,hS,hO3⟩
   ·have c2:w2.cell? ⟨rb,1,none⟩=some v:=cell_of_row w2 rb 1 _ _ _ hR2.row
    have hm2:=fun n=>yT n _ v w2 c2
    have T2:=rf v ms' i (k+1) w2 hR2.marks (by omega) (by omega) (by omega)
    push_cast at T2
    replace T2:=af T2;have hsw:=bF.swp (n:=j+1) ms' i (k+1) (by omega) (by omega) (by omega);have A:Aside (bT w2 rb gap v ms'/\bF (j+1) ms (swp ms' i (k+1))/\(swp ms' i (k+1)).Perm ms'/\ai v.ownBlock.toList w w2):=⟨hR2,hS.trans hsw,hsw.1,hO3⟩;clear hR2 hsw hO3 hS hO hO2;go_wp2_with fail
    refine T2.out.mono ?_;rintro e w3 ⟨rfl,eO,hO4⟩;go_wp2_with fail
    go_roundg i
    case measure=>omega
    case rel=>exact⟨_,by omega,rfl,A.out.1.withMarks eO A.out.2.2.1 hO4,A.out.2.1,A.out.2.2.2.trans hO4⟩
def ae8(w:World)(v v':Value):Prop:=v'.ownBlock=v.ownBlock\/ ∃g,v'.ownBlock=some g/\w.heap.size<=g
def Ea(w:World)(rb:Nat)(gap:Int)(v:Value)(ms:List Mk)(x:Mk)(e:Ending)(w':World):Prop:=
 ∃v' ms',e=.returned (.tuple #[])/\bT w' rb gap v' ms'/\ms'.Perm (ms++[x])/\ae8 w v v'/\ai (rb::v.ownBlock.toList) w w'
theorem LQ(rb:Nat)(gap:Int)(v:Value)(ms:List Mk)(x:Mk)(w:World)(h:bT w rb gap v ms)(hl:ms.length<1000)
  (hx:w.heap[x.blk]?=some (.cells #[.string x.key,.int .i64 x.at_] 293 (0,0)))(hxb:0<=x.at_/\x.at_<=1073741824)(hx1:x.blk≠rb)(hx2:v.ownBlock≠some x.blk):
  Calls Tryz.prog 176 #[.iface 286 (.pointer (some ⟨rb,1,none⟩)),.iface 291 (.pointer (some ⟨x.blk,0,none⟩))] w (Ea w rb gap v ms x):=by
 have P:=af (PW rb gap v ms x w h (by omega) hx hxb hx1 hx2);have hp:=fun n=>Zn n ⟨rb,1,none⟩ w
 clear h hx hxb hx1 hx2;go_enter Tryz.func176,Tryz.ntmps176
 go_wp2_with fail
 refine P.out.mono ?_;rintro e w1 ⟨v1,rfl,hR,hv,hO⟩;have c1:w1.cell? ⟨rb,1,none⟩=some v1:=cell_of_row w1 rb 1 _ _ _ hR.row;have hm1:=fun n=>YL n _ v1 w1 c1
 have U:=af (PY rb gap v1 (ms++[x]) ms.length w1 hR (by simp) (by simp;omega));obtain⟨g,cap,cur,rfl,hg,hn,hs,hc⟩:=hR.marks.shape (by simp);have hlen:(ms++[x]).length=ms.length+1:=by simp
 rw[hlen]at c1 hm1 U hR hv;change Hid _ at hlen hR hv;clear hg hn hs hc c1;go_wp2_with(first|(go_at_call 232;refine U.out.mono ?_;rintro e w2 ⟨Ab,rfl,hR2,hS2,hO2⟩)|(go_at_call 372;go_in))
 go_end0
 refine⟨_,Ab,rfl,hR2,hS2.1,hv.out,?_⟩;rcases hv.out with h1|⟨g',h1,h2⟩
 ·exact hO.trans' hO2 (by rw[<-h1];simp[Value.ownBlock])
 ·exact hO.trans' hO2 (by rw[h1];simp;omega)
def PZ(w:World)(rb:Nat)(gap:Int)(v:Value)(n:Nat)(ms:List Mk)(e:Ending)(w':World):Prop:= ∃b,D9 w rb gap v n ms (.bool b) e w'
theorem P5(rb:Nat)(gap:Int)(v:Value)(ms:List Mk)(i0 n:Nat)(w:World)(h:bT w rb gap v ms)(hi:i0<n)(hn:n<=ms.length)(hl:ms.length<=1000):
  Calls Tryz.prog 231 #[.iface 286 (.pointer (some ⟨rb,1,none⟩)),.int .i64 i0,.int .i64 n] w (PZ w rb gap v n ms):=by
 change Hid _ at h;go_enter Tryz.func231,Tryz.ntmps231
 go_wp2_with fail
 go_loopg[7] (n-i0) (fun g s7 wr=> ∃(ms':List Mk) (i:Nat),i0<=i/\i<n/\g=n-i/\s7=.int .i64 i/\bT wr rb gap v ms'/\bF n ms ms'/\ai v.ownBlock.toList w wr)
 case atStart=>exact⟨ms,i0,Nat.le_refl _,hi,rfl,rfl,h.out,bF.refl _ _,ai.refl _ _⟩
 case round=>
  obtain⟨ms',i,hi0,hin,rfl,rfl,hR,hS,hO⟩:=hrel;clear h;have hlen:=hS.len;have c1:wr.cell? ⟨rb,1,none⟩=some v:=cell_of_row wr rb 1 _ _ _ hR.row;have hm1:=fun n=>G6 n _ v wr c1
  by_cases h1:n<=2*i+1
  ·replace hR:=af hR
   replace hS:=af hS;clear hlen hm1 c1;go_wp2_with fail
   go_ret
   exact⟨_,ms',rfl,hR.out,hS.out,hO⟩
  ·by_cases h2:n<=2*i+2
   ·
    have T:=qZ v ms' (2*i+1) i wr hR.marks (by omega) (by omega) (by omega);generalize decide ((ms'.getD (2*i+1) Mk.dflt).at_<(ms'.getD i Mk.dflt).at_)=B at T
    push_cast at T
    replace T:=af T;replace hR:=af hR;replace hS:=af hS;go_wp2_with fail
    refine T.out.mono ?_;rintro e w2 ⟨rfl,hO2⟩;have hR2:=hR.out.nil hO2;have hO3:=hO.trans hO2.nil;cases B
    ·replace hR2:=af hR2
     go_wp2_with fail
     go_ret
     exact⟨_,ms',rfl,hR2.out,hS.out,hO3⟩
    ·have c2:w2.cell? ⟨rb,1,none⟩=some v:=cell_of_row w2 rb 1 _ _ _ hR2.row
     have hm2:=fun n=>yT n _ v w2 c2
     have T2:=rf v ms' i (2*i+1) w2 hR2.marks (by omega) (by omega) (by omega)
     push_cast at T2
     replace T2:=af T2;have hsw:=bF.swp (n:=n) ms' i (2*i+1) (by omega) (by omega) (by omega);have A:Aside (bT w2 rb gap v ms'/\bF n ms (swp ms' i (2*i+1))/\(swp ms' i (2*i+1)).Perm ms'/\ai v.ownBlock.toList w w2):=⟨hR2,hS.out.trans hsw,hsw.1,hO3⟩;clear hR2 hsw hO3 hO hO2;go_wp2_with fail
     refine T2.out.mono ?_;rintro e w3 ⟨rfl,eO,hO4⟩;go_wp2_with fail
     go_roundg(n-(2*i+1))
     case measure=>omega
     case rel=>exact⟨_,2*i+1,by omega,by omega,rfl,by go_num,A.out.1.withMarks eO A.out.2.2.1 hO4,A.out.2.1,A.out.2.2.2.trans hO4⟩
   ·
    have T:=qZ v ms' (2*i+1+1) (2*i+1) wr hR.marks (by omega) (by omega) (by omega);generalize decide ((ms'.getD (2*i+1+1) Mk.dflt).at_<(ms'.getD (2*i+1) Mk.dflt).at_)=B at T
    push_cast at T
    replace T:=af T;replace hR:=af hR;replace hS:=af hS;go_wp2_with fail
    refine T.out.mono ?_;rintro e w2 ⟨rfl,hO2⟩;have hR2:=hR.out.nil hO2;have hO3:=hO.trans hO2.nil;have c2:w2.cell? ⟨rb,1,none⟩=some v:=cell_of_row w2 rb 1 _ _ _ hR2.row;have hm2:=fun n=>G6 n _ v w2 c2
    cases B
    ·have T2:=qZ v ms' (2*i+1) i w2 hR2.marks (by omega) (by omega) (by omega)
     generalize decide ((ms'.getD (2*i+1) Mk.dflt).at_<(ms'.getD i Mk.dflt).at_)=B2 at T2
     push_cast at T2
     replace T2:=af T2;replace hR2:=af hR2;go_wp2_with fail
     refine T2.out.mono ?_;rintro e w3 ⟨rfl,hO4⟩;have fB:=hR2.out.nil hO4;have aF:=hO3.trans hO4.nil;cases B2
     ·replace fB:=af fB
      go_wp2_with fail
      go_ret
      exact⟨_,ms',rfl,fB.out,hS.out,aF⟩
     ·have c3:w3.cell? ⟨rb,1,none⟩=some v:=cell_of_row w3 rb 1 _ _ _ fB.row
      have hm3:=fun n=>yT n _ v w3 c3
      have T3:=rf v ms' i (2*i+1) w3 fB.marks (by omega) (by omega) (by omega)
      push_cast at T3
      replace T3:=af T3;have hsw:=bF.swp (n:=n) ms' i (2*i+1) (by omega) (by omega) (by omega);have A:Aside (bT w3 rb gap v ms'/\bF n ms (swp ms' i (2*i+1))/\(swp ms' i (2*i+1)).Perm ms'/\ai v.ownBlock.toList w w3):=⟨fB,hS.out.trans hsw,hsw.1,aF⟩;clear fB hsw aF hO hO2 hO3 hO4;go_wp2_with fail
      refine T3.out.mono ?_;rintro e w4 ⟨rfl,eO,bI⟩;go_wp2_with fail
      go_roundg(n-(2*i+1))
      case measure=>omega
      case rel=>exact⟨_,2*i+1,by omega,by omega,rfl,by go_num,A.out.1.withMarks eO A.out.2.2.1 bI,A.out.2.1,A.out.2.2.2.trans bI⟩
    ·have T2:=qZ v ms' (2*i+1+1) i w2 hR2.marks (by omega) (by omega) (by omega)
     generalize decide ((ms'.getD (2*i+1+1) Mk.dflt).at_<(ms'.getD i Mk.dflt).at_)=B2 at T2
     push_cast at T2
     replace T2:=af T2;replace hR2:=af hR2;go_wp2_with fail
     refine T2.out.mono ?_;rintro e w3 ⟨rfl,hO4⟩;have fB:=hR2.out.nil hO4;have aF:=hO3.trans hO4.nil;cases B2
     ·replace fB:=af fB
      go_wp2_with fail
      go_ret
      exact⟨_,ms',rfl,fB.out,hS.out,aF⟩
     ·have c3:w3.cell? ⟨rb,1,none⟩=some v:=cell_of_row w3 rb 1 _ _ _ fB.row
      have hm3:=fun n=>yT n _ v w3 c3
      have T3:=rf v ms' i (2*i+1+1) w3 fB.marks (by omega) (by omega) (by omega)
      push_cast at T3
      replace T3:=af T3;have hsw:=bF.swp (n:=n) ms' i (2*i+1+1) (by omega) (by omega) (by omega);have A:Aside (bT w3 rb gap v ms'/\bF n ms (swp ms' i (2*i+1+1))/\(swp ms' i (2*i+1+1)).Perm ms'/\ai v.ownBlock.toList w w3):=⟨fB,hS.out.trans hsw,hsw.1,aF⟩;clear fB hsw aF hO hO2 hO3 hO4;go_wp2_with fail
      refine T3.out.mono ?_;rintro e w4 ⟨rfl,eO,bI⟩;go_wp2_with fail
      go_roundg(n-(2*i+1+1))
      case measure=>omega
      case rel=>exact⟨_,2*i+1+1,by omega,by omega,rfl,by go_num,A.out.1.withMarks eO A.out.2.2.1 bI,A.out.2.1,A.out.2.2.2.trans bI⟩
def Vs(w:World)(rb:Nat)(gap:Int)(v:Value)(ms:List Mk)(i:Nat)(e:Ending)(w':World):Prop:=
 ∃v' ms' x,e=.returned x/\bT w' rb gap v' ms'/\ms'.Perm (ms.eraseIdx i)/\v'.ownBlock=v.ownBlock/\ai (rb::v.ownBlock.toList) w w'
end Go.Proofs.YtedcakchekaemaaGreatDoor
