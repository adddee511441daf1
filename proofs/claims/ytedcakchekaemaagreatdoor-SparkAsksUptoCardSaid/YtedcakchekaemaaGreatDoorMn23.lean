import Derived.Test.YtedcakchekaemaaGreatDoorMn21
set_option maxRecDepth 100000
set_option maxHeartbeats 16000000
set_option linter.all false
namespace Go.Proofs.YtedcakchekaemaaGreatDoor
open Go.RowKit
def kH.zero:kH:=⟨0,⟨#[]⟩,⟨#[]⟩,⟨#[]⟩⟩
def lJ:List ByteArray->kH
 | [_,_,n]=>⟨9,⟨#[]⟩,n,⟨#[]⟩⟩
 | [_,g,x,n]=>⟨lY x,g,n,⟨#[]⟩⟩
 | [_,g,x,n,d]=>⟨lY x,g,n,d⟩
 |_=>kH.zero
def jP(t:ByteArray):kH:=if(iB (lJ (dQ t))).2=0/\(iB (lJ (dQ t))).1=t then lJ (dQ t)else kH.zero
def sU(s:kH)(e:Ending):Prop:=e=.returned (.agg #[.int .i64 s.k,.string s.g,.string s.n,.string s.d])
theorem UX{w:World}{b:Nat}{x0 x1 x2 x3:Value}{T:TypeId}(h:w.heap[b]?=some (.cells #[x0,x1,x2,x3] T (0,0))):
  w.frozen? ⟨b,0,none⟩=false/\w.frozen? ⟨b,1,none⟩=false/\w.frozen? ⟨b,2,none⟩=false/\w.frozen? ⟨b,3,none⟩=false/\b<w.heap.size:=
 ⟨frozen_of_row w b 0 _ _ h,frozen_of_row w b 1 _ _ h,frozen_of_row w b 2 _ _ h,frozen_of_row w b 3 _ _ h,aj h⟩
theorem Ar{w:World}{b:Nat}{x0 x1 x2 x3:Value}{T:TypeId}(h:w.heap[b]?=some (.cells #[x0,x1,x2,x3] T (0,0)))(u0 u1 u2 u3:Value):
  ((((w.setCell ⟨b,0,none⟩ u0).setCell ⟨b,1,none⟩ u1).setCell ⟨b,2,none⟩ u2).setCell ⟨b,3,none⟩ u3).heap[b]?=some (.cells #[u0,u1,u2,u3] T (0,0)):=by
 have h1:=heap_setCell_same w b 0 _ T u0 h;have h2:=heap_setCell_same _ b 1 _ T u1 h1;have h3:=heap_setCell_same _ b 2 _ T u2 h2;have h4:=heap_setCell_same _ b 3 _ T u3 h3;simpa using h4
theorem Yc{w w':World}(h:ai [] w w'){b:Nat}(hb:w.heap.size<=b)(u0 u1 u2 u3:Value):
  ai [] w ((((w'.setCell ⟨b,0,none⟩ u0).setCell ⟨b,1,none⟩ u1).setCell ⟨b,2,none⟩ u2).setCell ⟨b,3,none⟩ u3):=
 (((h.setCell (.inr hb) _).setCell (.inr hb) _).setCell (.inr hb) _).setCell (.inr hb) _
theorem JF(l:List ByteArray)(v:Value)(w:World)(hR:aA l9 w v l)(hW:dz w):Calls Tryz.prog 50 #[v] w fun e w'=>sU (lJ l) e/\ai [] w w':=by
 obtain⟨av,cv,rfl⟩:=hR.form;have aH:ai [] w (w.alloc (.cells #[.int .i64 0,.string ⟨#[]⟩,.string ⟨#[]⟩,.string ⟨#[]⟩] 76)):=(ai.refl _ _).alloc _;have hb:=heap_alloc_new w (.cells #[.int .i64 0,.string ⟨#[]⟩,.string ⟨#[]⟩,.string ⟨#[]⟩] 76);have cK:=af (fun x W (h:dz W)=>Nc x W h);have hWw:=af (hW.own aH);by_cases h3:l.length=3
 ·match l,h3,hR with
  | [x0,x1,x2],_,hR=>
    obtain⟨b,o,rfl,hC⟩:=hR.at_ kG (by simp);have c2:w.cell? ⟨b,o+2,none⟩=some (.string x2):=by simpa using hC 2 x2 0 (.string x2) rfl rfl
    have d2:=(aH.cell (block_lt_of_cell c2) (by simp)).trans c2;clear hC hR;show Calls Tryz.prog 50 #[.slice (some ⟨b,o,none⟩) 3 cv] w fun e w'=>sU ⟨9,⟨#[]⟩,x2,⟨#[]⟩⟩ e/\ai [] w w'
    go_enter Tryz.func50,Tryz.ntmps50
    go_wp2_with fail
    obtain⟨g0,g1,g2,g3⟩:=fC (heap_alloc_new w (.cells #[.int .i64 9,.string ⟨#[]⟩,.string x2,.string ⟨#[]⟩] 76));refine bodyPost_ret (v:=.agg #[.int .i64 9,.string ⟨#[]⟩,.string x2,.string ⟨#[]⟩]) (by simp[results,Tryz.results50,go_sem,g0,g1,g2,g3];try rfl) rfl ⟨rfl,(ai.refl [] w).alloc _⟩
 ·by_cases h4:l.length=4
  ·replace h3:=h4
   clear h4
   match l,h3,hR with
   | [x0,x1,x2,x3],_,hR=>
     obtain⟨b,o,rfl,hC⟩:=hR.at_ kG (by simp);have c1:w.cell? ⟨b,o+1,none⟩=some (.string x1):=by simpa using hC 1 x1 0 (.string x1) rfl rfl
     have d1:=(aH.cell (block_lt_of_cell c1) (by simp)).trans c1;have c2:w.cell? ⟨b,o+2,none⟩=some (.string x2):=by simpa using hC 2 x2 0 (.string x2) rfl rfl
     have d2:=(aH.cell (block_lt_of_cell c2) (by simp)).trans c2;have c3:w.cell? ⟨b,o+3,none⟩=some (.string x3):=by simpa using hC 3 x3 0 (.string x3) rfl rfl
     have d3:=(aH.cell (block_lt_of_cell c3) (by simp)).trans c3;clear hC hR;show Calls Tryz.prog 50 #[.slice (some ⟨b,o,none⟩) 4 cv] w fun e w'=>sU ⟨lY x2,x1,x3,⟨#[]⟩⟩ e/\ai [] w w'
     go_enter Tryz.func50,Tryz.ntmps50
     go_wp2_with fail
     go_region_held3(fun W'=>W'.cell? ⟨b,o+1,none⟩=some (.string x1)/\W'.cell? ⟨b,o+2,none⟩=some (.string x2)/\W'.cell? ⟨b,o+3,none⟩=some (.string x3)) (go_keep) ((go_at_call 85;((with_reducible refine(cK.out _ _ (by first|exact hWw.out|exact hWw.out.own ((ai.refl [] _).drew))).mono ?_);rintro e w2 ⟨rfl,rfl⟩)))
     all_goals
      go_wp2_with fail
     obtain⟨g0,g1,g2,g3⟩:=fC (heap_alloc_new w (.cells #[.int .i64 (lY x2),.string x1,.string x3,.string ⟨#[]⟩] 76));refine bodyPost_ret (v:=.agg #[.int .i64 (lY x2),.string x1,.string x3,.string ⟨#[]⟩]) (by simp[results,Tryz.results50,go_sem,g0,g1,g2,g3];try rfl) rfl ⟨rfl,((ai.refl [] w).alloc _).drew⟩
  ·by_cases h5:l.length=5
   ·match l,h5,hR with
    | [x0,x1,x2,x3,x4],_,hR=>
      obtain⟨b,o,rfl,hC⟩:=hR.at_ kG (by simp);have c1:w.cell? ⟨b,o+1,none⟩=some (.string x1):=by simpa using hC 1 x1 0 (.string x1) rfl rfl
      have d1:=(aH.cell (block_lt_of_cell c1) (by simp)).trans c1;have c2:w.cell? ⟨b,o+2,none⟩=some (.string x2):=by simpa using hC 2 x2 0 (.string x2) rfl rfl
      have d2:=(aH.cell (block_lt_of_cell c2) (by simp)).trans c2;have c3:w.cell? ⟨b,o+3,none⟩=some (.string x3):=by simpa using hC 3 x3 0 (.string x3) rfl rfl
      have d3:=(aH.cell (block_lt_of_cell c3) (by simp)).trans c3;have c4:w.cell? ⟨b,o+4,none⟩=some (.string x4):=by simpa using hC 4 x4 0 (.string x4) rfl rfl
      have d4:=(aH.cell (block_lt_of_cell c4) (by simp)).trans c4;clear hC hR;show Calls Tryz.prog 50 #[.slice (some ⟨b,o,none⟩) 5 cv] w fun e w'=>sU ⟨lY x2,x1,x3,x4⟩ e/\ai [] w w'
      go_enter Tryz.func50,Tryz.ntmps50
      go_wp2_with fail
      go_region_held3(fun W'=>W'.cell? ⟨b,o+1,none⟩=some (.string x1)/\W'.cell? ⟨b,o+2,none⟩=some (.string x2)/\W'.cell? ⟨b,o+3,none⟩=some (.string x3)/\W'.cell? ⟨b,o+4,none⟩=some (.string x4)) (go_keep) ((go_at_call 85;((with_reducible refine(cK.out _ _ (by first|exact hWw.out|exact hWw.out.own ((ai.refl [] _).drew))).mono ?_);rintro e w2 ⟨rfl,rfl⟩)))
      all_goals
       go_wp2_with fail
      obtain⟨g0,g1,g2,g3⟩:=fC (heap_alloc_new w (.cells #[.int .i64 (lY x2),.string x1,.string x3,.string x4] 76));refine bodyPost_ret (v:=.agg #[.int .i64 (lY x2),.string x1,.string x3,.string x4]) (by simp[results,Tryz.results50,go_sem,g0,g1,g2,g3];try rfl) rfl ⟨rfl,((ai.refl [] w).alloc _).drew⟩
   ·have hg:lJ l=kH.zero:=by
     match l,h3,h4,h5 with
     | [],_,_,_=>rfl
     | [_],_,_,_=>rfl
     | [_,_],_,_,_=>rfl
     |_::_::_::_::_::_::_,_,_,_=>rfl
     | [_,_,_],h,_,_=>exact absurd rfl h
     | [_,_,_,_],_,h,_=>exact absurd rfl h
     | [_,_,_,_,_],_,_,h=>exact absurd rfl h
    have k3:((l.length:Int)==3)=false:=by simp;omega
    have k4:((l.length:Int)==4)=false:=by simp;omega
    have k5:((l.length:Int)==5)=false:=by simp;omega
    have q3: ¬((l.length:Int)=3):=by omega
    have q4: ¬((l.length:Int)=4):=by omega
    have q5: ¬((l.length:Int)=5):=by omega
    rw[hg];clear hg h3 h4 h5;go_enter Tryz.func50,Tryz.ntmps50
    go_wp2_with fail
    obtain⟨g0,g1,g2,g3⟩:=fC hb;refine bodyPost_ret (v:=.agg #[.int .i64 0,.string ⟨#[]⟩,.string ⟨#[]⟩,.string ⟨#[]⟩]) (by simp[results,Tryz.results50,go_sem,g0,g1,g2,g3];try rfl) rfl ⟨rfl,aH⟩
theorem Nl{r:ByteArray×Int}{e:Ending}(h:ES r e):e=.returned (.tuple #[.string r.1,.int .i64 r.2]):=h
theorem wW(t:ByteArray)(w:World)(hs:t.size<=1048576)(hW:dz w)(hT:jG w)(hM:pG w):Calls Tryz.prog 23 #[.string t] w fun e w'=>sU (jP t) e/\ai [] w w':=by
 obtain⟨R,hR⟩: ∃R,jP t=R:=⟨_,rfl⟩;rw[hR];unfold jP at hR;have aH:ai [] w (w.alloc (.cells #[.int .i64 0,.string ⟨#[]⟩,.string ⟨#[]⟩,.string ⟨#[]⟩] 76)):=(ai.refl _ _).alloc _;have hb:=heap_alloc_new w (.cells #[.int .i64 0,.string ⟨#[]⟩,.string ⟨#[]⟩,.string ⟨#[]⟩] 76);have cS:=af (JD t (w.alloc (.cells #[.int .i64 0,.string ⟨#[]⟩,.string ⟨#[]⟩,.string ⟨#[]⟩] 76)) hs);have cG:=af (fun v W h hW=>JF (dQ t) v W h hW);have cP:=af (fun W hW hT hM=>Iq (lJ (dQ t)) W hW hT hM);generalize lJ (dQ t)=g at*;obtain⟨r,hr⟩: ∃r,iB g=r:=⟨_,rfl⟩;rw[hr]at hR cP;obtain⟨rt,re⟩:=r;clear hr;change Hid _ at hb;replace aH:=af aH;go_enter Tryz.func23,Tryz.ntmps23
 go_wp2_with fail
 refine cS.out.mono ?_;rintro e w1 ⟨v,rfl,nZ,hO⟩;have sG:=nZ.reads kG;clear nZ;replace aH:Hid (ai [] w w1):=af (aH.out.trans hO);replace hb:=af (hO.heap hb.out (by simp));clear hO cS;go_wp2_with fail
 refine(cG.out v w1 sG (hW.own aH.out)).mono ?_;rintro e w2 ⟨he,hO⟩;unfold sU at he;subst he;replace aH:Hid (ai [] w w2):=af (aH.out.trans hO);replace hb:=af (hO.heap hb.out (by simp));clear hO cG sG;have hO3:ai [] w (w2.alloc (.cells #[.int .i64 g.k,.string g.g,.string g.n,.string g.d] 76)):=aH.out.alloc _;have hb3:=heap_alloc_new w2 (.cells #[.int .i64 g.k,.string g.g,.string g.n,.string g.d] 76);have hb0:=((ai.refl [] w2).alloc (.cells #[.int .i64 g.k,.string g.g,.string g.n,.string g.d] 76)).heap hb.out (by simp);go_wp2_with fail
 refine(cP.out _ (hW.own hO3) (hT.own hO3 (by simp)) (hM.own hO3)).mono ?_;rintro e w3 ⟨he,hO⟩;replace he:=Nl he;subst he;have hO4:ai [] w w3:=hO3.trans hO;have hc3:=hO.heap hb3 (by simp);have hc0:=hO.heap hb0 (by simp);clear hO hO3 hb3 hb0 hb aH cP;obtain⟨f0,f1,f2,f3⟩:=fC hc3;obtain⟨y0,y1,y2,y3⟩:=fC hc0;obtain⟨z0,z1,z2,z3,zl⟩:=UX hc0;have hr1:=Ar hc0 (.int .i64 0) (.string ⟨#[]⟩) (.string ⟨#[]⟩) (.string ⟨#[]⟩);have hr2:=Ar hc0 (.int .i64 g.k) (.string g.g) (.string g.n) (.string g.d);have ho1:=Yc hO4 (Nat.le_refl _) (.int .i64 0) (.string ⟨#[]⟩) (.string ⟨#[]⟩) (.string ⟨#[]⟩);have ho2:=Yc hO4 (Nat.le_refl _) (.int .i64 g.k) (.string g.g) (.string g.n) (.string g.d);clear hO4 hc0 hc3;by_cases hre:re=0
 ·by_cases hrt:rt=t
  ·rw[if_pos ⟨hre,hrt⟩]at hR
   subst hR hre hrt;clear hr1 ho1;go_wp2_with fail
   obtain⟨g0,g1,g2,g3⟩:=fC hr2;refine bodyPost_ret (v:=.agg #[.int .i64 g.k,.string g.g,.string g.n,.string g.d]) (by simp[results,Tryz.results23,go_sem,g0,g1,g2,g3];try rfl) rfl ⟨rfl,ho2⟩
  ·rw[if_neg (fun h=>hrt h.2)]at hR
   subst hR hre;clear hr2 ho2;have hq:(rt.toList==t.toList)=false:=by
    rw[beq_eq_false_iff_ne];exact fun h=>hrt (by rw[<-sQ rt,h,sQ])
   have hq2:(!rt.toList==t.toList)=true:=by rw[hq];rfl
   go_wp2_with fail
   obtain⟨g0,g1,g2,g3⟩:=fC hr1;refine bodyPost_ret (v:=.agg #[.int .i64 0,.string ⟨#[]⟩,.string ⟨#[]⟩,.string ⟨#[]⟩]) (by simp[results,Tryz.results23,go_sem,g0,g1,g2,g3];try rfl) rfl ⟨rfl,ho1⟩
 ·rw[if_neg (fun h=>hre h.1)]at hR
  subst hR;clear hr2 ho2;go_wp2_with fail
  obtain⟨g0,g1,g2,g3⟩:=fC hr1;refine bodyPost_ret (v:=.agg #[.int .i64 0,.string ⟨#[]⟩,.string ⟨#[]⟩,.string ⟨#[]⟩]) (by simp[results,Tryz.results23,go_sem,g0,g1,g2,g3];try rfl) rfl ⟨rfl,ho1⟩
def bT(k:ByteArray×ByteArray):Value:=.agg #[.string k.1,.string k.2]
abbrev aK(b:Nat):Value:=.pointer (some ⟨b,0,none⟩)
abbrev Av:Value:=.string ⟨#[]⟩
theorem JO(W:World):Calls Tryz.prog 21 #[] W fun e w'=> ∃s,e=.returned (aK s)/\w'.heap[s]?=some (.cells #[.slice none 0 0,.bool true] 150 (0,0))/\ai [] W w':=by
 go_enter Tryz.func21,Tryz.ntmps21
 go_wp2_with fail
 go_ret
 exact⟨_,rfl,heap_alloc_new _ _,(ai.refl _ _).alloc _⟩
def pJ(w:World)(h hm:Nat):Prop:=w.heap[h]?=some (.cells #[Av,.bool false,Av,.bool false,Av,.bool false,Av,.bool false,.map (some hm)] 147 (0,0))/\cu Value.string w hm []
theorem pJ.own{w w':World}{h hm:Nat}(H:pJ w h hm)(ho:ai [] w w'):pJ w' h hm:=⟨ho.heap H.1 (by simp),H.2.own ho (by simp)⟩
theorem Rq(W:World):Calls Tryz.prog 20 #[] W fun e w'=> ∃s m,e=.returned (aK s)/\pJ w' s m/\ai [] W w':=by
 have hmm:= @run_makeMap Tryz.prog;go_enter Tryz.func20,Tryz.ntmps20
 go_wp2_with fail
 go_ret
 exact⟨W.heap.size+1,W.heap.size,rfl,⟨heap_alloc2_new _ _ _,(cu.made W).of_heap (by rw[Below.heap_alloc _ _ _ (by simp)])⟩,((ai.refl _ _).alloc _).alloc _⟩
structure SN (w:World) (p m h hm bb r:Nat):Prop where
 sp:w.heap[p]?=some (.cells #[.map (some m),aK h,aK bb,aK r,.int .i64 0] 73 (0,0))
 nm:cu bT w m []
 ho:pJ w h hm
 bi:w.heap[bb]?=some (.cells #[.slice none 0 0,.bool true] 150 (0,0))
 ra:w.heap[r]?=some (.cells #[.int .i64 10,.slice none 0 0,.bool true] 143 (0,0))
theorem SN.own{w w':World}{p m h hm bb r:Nat}(H:SN w p m h hm bb r)(ho:ai [] w w'):SN w' p m h hm bb r:=
 ⟨ho.heap H.sp (by simp),H.nm.own ho (by simp),H.ho.own ho,ho.heap H.bi (by simp),ho.heap H.ra (by simp)⟩
structure Mk where
 blk:Nat
 key:ByteArray
 at_:Int
def Mk.ptr(x:Mk):Value:=.pointer (some ⟨x.blk,0,none⟩)
def Mk.dflt:Mk:=⟨0,ByteArray.empty,0⟩
structure rD (w:World) (v:Value) (ms:List Mk):Prop where
 own:w.ownsRow 0 291 1 v ms.length (ms.map Mk.ptr)
 marks: ∀x∈ms,w.heap[x.blk]?=some (.cells #[.string x.key,.int .i64 x.at_] 293 (0,0))/\0<=x.at_/\x.at_<=1073741824
 apart: ∀x∈ms,v.ownBlock≠some x.blk
theorem rD.shape{w:World}{v:Value}{ms:List Mk}(h:rD w v ms)(hp:0<ms.length): ∃g cap cur,v=.slice (some ⟨g,0,none⟩) ms.length cap/\w.heap[g]?=some (.cells cur 291 (0,0))/\ms.length<=cap/\cur.size=cap/\
  ∀i,i<ms.length->cur[i]?=some (ms.getD i Mk.dflt).ptr:=by
 obtain⟨h1,h2|⟨g,cap,cur,hv,_,hg,hn,_,hs,ht⟩⟩:=h.own
 ·omega
 ·refine⟨g,cap,cur,hv,hg,hn,by simpa using hs,fun i hi=>?_⟩
  have:(cur.toList.take (ms.length*1))[i]?=(ms.map Mk.ptr)[i]?:=by rw[ht]
  rw[List.getElem?_take_of_lt (by omega)]at this;simpa[List.getD,List.getElem?_eq_getElem hi]using this
theorem pK(v:Value)(ms:List Mk)(i j:Nat)(w:World)(h:rD w v ms)(hi:i<ms.length)(hj:j<ms.length)(hl:ms.length<=1000):
  Calls Tryz.prog 373 #[v,.int .i64 i,.int .i64 j] w fun e w'=>e=.returned (.bool (decide ((ms.getD i Mk.dflt).at_<(ms.getD j Mk.dflt).at_)))/\ai [] w w':=by
 obtain⟨g,cap,cur,rfl,hg,hn,hs,hc⟩:=h.shape (by omega);have mi:ms.getD i Mk.dflt∈ms:=by simp[List.getD,List.getElem?_eq_getElem hi]
 have mj:ms.getD j Mk.dflt∈ms:=by simp[List.getD,List.getElem?_eq_getElem hj]
 have ci:w.cell? ⟨g,i,none⟩=some (.pointer (some ⟨(ms.getD i Mk.dflt).blk,0,none⟩)):=(cell_of_row w g i _ _ _ hg).trans (hc i hi);have cj:w.cell? ⟨g,j,none⟩=some (.pointer (some ⟨(ms.getD j Mk.dflt).blk,0,none⟩)):=(cell_of_row w g j _ _ _ hg).trans (hc j hj);have di:w.cell? ⟨(ms.getD i Mk.dflt).blk,1,none⟩=some (.int .i64 (ms.getD i Mk.dflt).at_):=cell_of_row w _ 1 _ _ _ (h.marks _ mi).1;have dj:w.cell? ⟨(ms.getD j Mk.dflt).blk,1,none⟩=some (.int .i64 (ms.getD j Mk.dflt).at_):=cell_of_row w _ 1 _ _ _ (h.marks _ mj).1;generalize ms.getD i Mk.dflt=xi at*;generalize ms.getD j Mk.dflt=xj at*;have b1:(0:Int)<=i:=by omega
 have b2:(i:Int)<ms.length:=by omega
 have b3:(0:Int)<=j:=by omega
 have b4:(j:Int)<ms.length:=by omega
 clear h hc mi mj hg hs;go_enter Tryz.func373,Tryz.ntmps373
 go_wp2_with fail
 go_quiet(fail)
 go_wp2_with fail
 go_ret
 exact⟨rfl,(ai.refl _ _).drewN _⟩
def swp(ms:List Mk)(i j:Nat):List Mk:=(ms.set i (ms.getD j Mk.dflt)).set j (ms.getD i Mk.dflt)
theorem oz(ms:List Mk)(i j:Nat):(swp ms i j).length=ms.length:=by simp[swp]
theorem JV(g:Nat)(n cap:Nat)(i j:Nat)(xi xj:Nat)(w:World)(hi:i<n)(hj:j<n)(hij:i≠j)
  (ci:w.cell? ⟨g,i,none⟩=some (.pointer (some ⟨xi,0,none⟩)))(cj:w.cell? ⟨g,j,none⟩=some (.pointer (some ⟨xj,0,none⟩)))(fi: ∀o,w.frozen? ⟨g,o,none⟩=false):
  Calls Tryz.prog 374 #[.slice (some ⟨g,0,none⟩) n cap,.int .i64 i,.int .i64 j] w fun e w'=>e=.returned (.tuple #[])/\w'.heap=((w.setCell ⟨g,i,none⟩ (.pointer (some ⟨xj,0,none⟩))).setCell ⟨g,j,none⟩ (.pointer (some ⟨xi,0,none⟩))).heap/\ai [g] w w':=by
 have b1:(0:Int)<=i:=by omega
 have b2:(i:Int)<n:=by omega
 have b3:(0:Int)<=j:=by omega
 have b4:(j:Int)<n:=by omega
 have f1:=fi i;have f2:=fi j;have hij': ¬j=i:=fun e=>hij e.symm
 clear fi;go_enter Tryz.func374,Tryz.ntmps374
 go_wp2_with fail
 go_region
 all_goals
  go_end0
  exact⟨rfl,rfl,(((ai.refl [g] w).setCell (by simp) _).setCell (by simp) _).drew⟩
theorem pO(v:Value)(ms:List Mk)(i j:Nat)(w:World)(h:rD w v ms)(hi:i<ms.length)(hj:j<ms.length)(hij:i≠j):
  Calls Tryz.prog 374 #[v,.int .i64 i,.int .i64 j] w fun e w'=>e=.returned (.tuple #[])/\rD w' v (swp ms i j)/\ai v.ownBlock.toList w w':=by
 obtain⟨g,cap,cur,rfl,hg,hn,hs,hc⟩:=h.shape (by omega);have mi:ms.getD i Mk.dflt∈ms:=by simp[List.getD,List.getElem?_eq_getElem hi]
 have mj:ms.getD j Mk.dflt∈ms:=by simp[List.getD,List.getElem?_eq_getElem hj]
 have ci:=(cell_of_row w g i _ _ _ hg).trans (hc i hi);have cj:=(cell_of_row w g j _ _ _ hg).trans (hc j hj);refine(JV g ms.length cap i j _ _ w hi hj hij ci cj (fun o=>frozen_of_row w g o _ _ hg)).mono ?_;rintro e w' ⟨rfl,hh,ho⟩;have hb: ∀x∈swp ms i j,x∈ms:=by
  intro x hx;unfold swp at hx;rcases List.mem_or_eq_of_mem_set hx with h1|rfl
  ·rcases List.mem_or_eq_of_mem_set h1 with h2|rfl
   ·exact h2
   ·exact mj
  ·exact mi
 refine⟨rfl,⟨?_,fun x hx=>?_,fun x hx=>h.apart x (hb x hx)⟩,ho⟩
 ·obtain⟨h1,h2⟩:=h.own
  refine⟨by simp[oz],.inr ⟨g,cap,(cur.setIfInBounds i (ms.getD j Mk.dflt).ptr).setIfInBounds j (ms.getD i Mk.dflt).ptr,by rw[oz],Nat.zero_le _,?_,by rw[oz];exact hn,?_,by simpa using hs,?_⟩⟩
  ·rw[hh]
   exact heap_setCell_same _ _ _ _ _ _ (heap_setCell_same _ _ _ _ _ _ hg)
  ·rcases h2 with⟨h3,_⟩|⟨g',cap',cur',h3,_,h4,_,h5,_⟩
   ·simp at h3
   ·simp only[Value.slice.injEq]at h3
    omega
  ·rw[oz,Nat.mul_one]
   apply List.ext_getElem?;intro k;by_cases hk:k<ms.length
   ·rw[List.getElem?_take_of_lt hk]
    have hk2:=hc k hk;have hkc:k<cur.size:=by omega
    simp only[Array.getElem?_toList,Array.getElem?_setIfInBounds,Array.size_setIfInBounds,List.getElem?_map,swp,List.getElem?_set,List.length_set];by_cases h1:j=k
    ·subst h1
     simp[hkc,hj]
    ·by_cases h2:i=k
     ·subst h2
      simp[hkc,hi,h1]
     ·simp only[h1,h2,if_false]
      rw[hk2];simp[List.getD,List.getElem?_eq_getElem hk]
   ·rw[List.getElem?_eq_none (by simp;omega),List.getElem?_eq_none (by simp[oz];omega)]
 ·refine⟨?_,(h.marks x (hb x hx)).2⟩
  exact ho.heap (h.marks x (hb x hx)).1 (by
   have:=h.apart x (hb x hx);simp[Value.ownBlock]at this⊢;exact fun e=>this e.symm)
structure bM (w:World) (rb:Nat) (gap:Int) (v:Value) (ms:List Mk):Prop where
 row:w.heap[rb]?=some (.cells #[.int .i64 gap,v,.bool true] 143 (0,0))
 marks:rD w v ms
 ne:v.ownBlock≠some rb
 apart: ∀x∈ms,x.blk≠rb
def Rs(w:World)(rb:Nat)(gap:Int)(v:Value)(ms:List Mk)(e:Ending)(w':World):Prop:=
 ∃v' x,e=.returned (.iface 291 x)/\bM w' rb gap v' ms.dropLast/\v'.ownBlock=v.ownBlock/\ai [rb] w w'
theorem Iu(rb:Nat)(gap:Int)(v:Value)(ms:List Mk)(w:World)(h:bM w rb gap v ms)(hn:0<ms.length)(hl:ms.length<=1000):
  Calls Tryz.prog 376 #[.pointer (some ⟨rb,1,none⟩)] w (Rs w rb gap v ms):=by
 obtain⟨g,cap,cur,rfl,hg,hnc,hs,hc⟩:=h.marks.shape hn;have hrow:=h.row;have c1:w.cell? ⟨rb,1,none⟩=some (.slice (some ⟨g,0,none⟩) ms.length cap):=cell_of_row w rb 1 _ _ _ hrow;have f1:w.frozen? ⟨rb,1,none⟩=false:=frozen_of_row w rb _ _ _ hrow;have cl:=(cell_of_row w g (ms.length-1) _ _ _ hg).trans (hc (ms.length-1) (by omega));have Vl:cap<=maxLen:=by
  obtain⟨_,h2|⟨g',cap',cur',h3,_,h4,_,h5,_⟩⟩:=h.marks.own
  ·simp at h2
  ·simp only[Value.slice.injEq]at h3
   obtain⟨_,_,h6⟩:=h3;omega
 have hfin:bM (w.setCell ⟨rb,1,none⟩ (.slice (some ⟨g,0,none⟩) (ms.length-1) cap)) rb gap (.slice (some ⟨g,0,none⟩) (ms.length-1) cap) ms.dropLast:=by
  have hne:=h.ne;simp only[Value.ownBlock,ne_eq,Option.some.injEq]at hne;have hO:ai [rb] w (w.setCell ⟨rb,1,none⟩ (.slice (some ⟨g,0,none⟩) (ms.length-1) cap)):=(ai.refl _ _).setCell (by simp) _;refine⟨heap_setCell_same _ _ _ _ _ _ hrow,⟨?_,fun x hx=>?_,fun x hx=>h.marks.apart x ((List.dropLast_sublist ms).subset hx)⟩,by simpa[Value.ownBlock]using hne,fun x hx=>h.apart x ((List.dropLast_sublist ms).subset hx)⟩
  ·refine⟨by simp,.inr ⟨g,cap,cur,by simp,Nat.zero_le _,hO.heap hg (by simpa using hne),by simp;omega,Vl,by simpa using hs,?_⟩⟩
   apply List.ext_getElem?;intro k;by_cases hk:k<ms.length-1
   ·rw[List.getElem?_take_of_lt (by simpa using hk)]
    simp only[Array.getElem?_toList,hc k (by omega),List.getElem?_map,List.getElem?_dropLast,hk,if_true];simp[List.getD,List.getElem?_eq_getElem (show k<ms.length by omega)]
   ·rw[List.getElem?_eq_none (by simp;omega),List.getElem?_eq_none (by simp;omega)]
  ·have hx':=(List.dropLast_sublist ms).subset hx
   exact⟨hO.heap (h.marks.marks x hx').1 (by simpa using h.apart x hx'),(h.marks.marks x hx').2⟩
 change Hid _ at hfin;obtain⟨n,hN⟩: ∃n,ms.length=n+1:=⟨ms.length-1,by omega⟩;rw[hN]at c1 cl hfin hl hnc⊢;simp only[Nat.add_sub_cancel]at cl hfin;generalize(ms.getD n Mk.dflt)=xl at cl;have cl:w.cell? ⟨g,n,none⟩=some (.pointer (some ⟨xl.blk,0,none⟩)):=cl;clear h hrow hg hs hc hN hn;unfold maxLen at Vl;go_enter Tryz.func376,Tryz.ntmps376
 go_wp2_with fail
 go_ret
 exact⟨_,_,rfl,hfin.out,rfl,(ai.refl _ _).setCell (by simp) _⟩
def Cn(w:World)(rb:Nat)(gap:Int)(v:Value)(ms:List Mk)(x:Mk)(e:Ending)(w':World):Prop:=
 ∃v',e=.returned (.tuple #[])/\bM w' rb gap v' (ms++[x])/\(v'.ownBlock=v.ownBlock\/ ∃g,v'.ownBlock=some g/\w.heap.size<=g)/\ai (rb::v.ownBlock.toList) w w'
theorem ai.grown{S:List Nat}{a b c:World}{row:Option Nat}(h:ai S a b)(hg:b.grownBy c row)(hr: ∀k,row=some k->k∈S\/a.heap.size<=k):ai S a c:=
 ⟨hg.os.trans h.os,hg.tape.trans h.tape,hg.output.trans h.output,Nat.le_trans h.size hg.size,fun k hk hn=>by
  rw[hg.block k (Nat.lt_of_lt_of_le hk h.size) (fun e=>by rcases hr k e.symm with h1|h1;exact hn h1;omega)];exact h.block k hk hn⟩
theorem Nw{w w1:World}{rb g cap n H:Nat}{gap:Int}{v:Value}{ms:List Mk}{x:Mk}{C:Obj}(h:bM w rb gap v ms)
  (hx:w.heap[x.blk]?=some (.cells #[.string x.key,.int .i64 x.at_] 293 (0,0)))(hxb:0<=x.at_/\x.at_<=1073741824)(hx1:x.blk≠rb)(hx2:v.ownBlock≠some x.blk)
  (hn:ms.length=n)(hH:w.heap.size=H)(hown:w1.ownsRow 0 291 1 (.slice (some ⟨g,0,none⟩) (n+1) cap) (n+1) (ms.map Mk.ptr++[.pointer (some ⟨x.blk,0,none⟩)]))
  (hgrow:(w.alloc C).drew.grownBy w1 v.ownBlock)(hat:v.ownBlock=some g\/g=H+1):
  Cn w rb gap v ms x (.returned (.tuple #[])) (w1.setCell ⟨rb,1,none⟩ (.slice (some ⟨g,0,none⟩) (n+1) cap)):=by
 have aH:ai (rb::v.ownBlock.toList) w w1:=(((ai.refl _ w).alloc C).drew).grown hgrow (by intro k hk;rw[hk];simp);have hO2:ai v.ownBlock.toList w w1:=(((ai.refl _ w).alloc C).drew).grown hgrow (by intro k hk;rw[hk];simp);have YI:=hO2.heap h.row (by simpa using h.ne);have YJ:g≠rb:=by
  rcases hat with h1|h1
  ·intro e;exact h.ne (by rw[h1,e])
  ·have:=aj h.row;omega
 have hall: ∀y∈ms++[x],w.heap[y.blk]?=some (.cells #[.string y.key,.int .i64 y.at_] 293 (0,0))/\(0<=y.at_/\y.at_<=1073741824)/\y.blk≠rb/\v.ownBlock≠some y.blk:=by
  intro y hy;rcases List.mem_append.1 hy with h1|h1
  ·exact⟨(h.marks.marks y h1).1,(h.marks.marks y h1).2,h.apart y h1,h.marks.apart y h1⟩
  ·rw[List.mem_singleton.1 h1];exact⟨hx,hxb,hx1,hx2⟩
 have hO3:ai [rb] w1 (w1.setCell ⟨rb,1,none⟩ (.slice (some ⟨g,0,none⟩) (n+1) cap)):=(ai.refl _ _).setCell (by simp) _;refine⟨_,rfl,⟨heap_setCell_same _ _ _ _ _ _ YI,⟨?_,fun y hy=>?_,fun y hy=>?_⟩,by simpa[Value.ownBlock]using YJ,fun y hy=>(hall y hy).2.2.1⟩,?_,aH.trans (hO3.mono (by simp))⟩
 ·have e:(ms++[x]).length=n+1:=by simp[hn]
  have e2:(ms++[x]).map Mk.ptr=ms.map Mk.ptr++[.pointer (some ⟨x.blk,0,none⟩)]:=by simp[Mk.ptr]
  rw[e,e2];obtain⟨h1,h2|⟨g',cap',cur',h3,h4,h5,h6⟩⟩:=hown
  ·exact⟨h1,.inl h2⟩
  ·simp only[Value.slice.injEq,Option.some.injEq,Addr.mk.injEq,and_true,true_and]at h3
   obtain⟨rfl,rfl⟩:=h3;exact⟨h1,.inr ⟨g,cap,cur',rfl,h4,hO3.heap h5 (by simpa using YJ),h6⟩⟩
 ·refine⟨hO3.heap (hO2.heap (hall y hy).1 ?_) (by simpa using(hall y hy).2.2.1),(hall y hy).2.1⟩
  have:=(hall y hy).2.2.2;cases hv:v.ownBlock with
  |none=>simp
  |some k=>rw[hv]at this;simp at this⊢;exact fun e=>this e.symm
 ·simp only[Value.ownBlock,ne_eq,Option.some.injEq]
  intro e;rcases hat with h1|h1
  ·exact(hall y hy).2.2.2 (by rw[h1,e])
  ·have:=aj (hall y hy).1;omega
 ·rcases hat with h1|h1
  ·exact .inl (by rw[h1];rfl)
  ·exact .inr ⟨g,rfl,by omega⟩
theorem Ny(a:Addr)(w:World):(Instr.typeAssert (.iface 291 (.pointer (some a))) 20 291 false).run Tryz.prog w=.ok (.pointer (some a)) w:=by kernel_rfl
theorem Vv:(Tryz.prog.info? 291).map (fun i=>(i.zero,i.size,i.bytes))=some (some (.pointer none),1,8):=by kernel_rfl
theorem Nz(rb:Nat)(gap:Int)(v:Value)(ms:List Mk)(x:Mk)(w:World)(h:bM w rb gap v ms)(hl:ms.length<=1000)
  (hx:w.heap[x.blk]?=some (.cells #[.string x.key,.int .i64 x.at_] 293 (0,0)))(hxb:0<=x.at_/\x.at_<=1073741824)(hx1:x.blk≠rb)(hx2:v.ownBlock≠some x.blk):
  Calls Tryz.prog 377 #[.pointer (some ⟨rb,1,none⟩),.iface 291 (.pointer (some ⟨x.blk,0,none⟩))] w (Cn w rb gap v ms x):=by
 obtain⟨i0,hi,hz0,hz1,hz2⟩:=info_parts Vv;have hrow:=h.row;have c1:w.cell? ⟨rb,1,none⟩=some v:=cell_of_row w rb 1 _ _ _ hrow;have hown:=h.marks.own;have hrb:=aj hrow;have hxl:=aj hx;obtain⟨H,hH⟩: ∃H,w.heap.size=H:=⟨_,rfl⟩;change Hid _ at hH;generalize hxs:ms.map Mk.ptr=xs at hown;generalize hnn:ms.length=n at hown hl;have hK:=h;clear hrow h;change Hid _ at hK;have YK:=hK.out.ne;have hK1: ∀w1,((w.alloc (.cells #[.pointer (some ⟨x.blk,0,none⟩)] 291)).drew).grownBy w1 v.ownBlock->w1.heap[rb]?=some (.cells #[.int .i64 gap,v,.bool true] 143 (0,0)):=fun w1 hg=>by
  rw[hg.block rb (by simp;omega) YK.symm];show(w.alloc _).heap[rb]?=_;rw[Below.heap_alloc _ _ _ hrb];exact hK.out.row
 change Hid _ at hK1;have hown1:((w.alloc (.cells #[.pointer (some ⟨x.blk,0,none⟩)] 291)).drew).ownsRow 0 291 1 v n xs:=(hown.alloc _).drew;clear YK hown;change Hid _ at hown1 hxs hnn;have hnw:((w.alloc (.cells #[.pointer (some ⟨x.blk,0,none⟩)] 291)).drew).heap[H]?=some (.cells #[.pointer (some ⟨x.blk,0,none⟩)] 291 (0,0)):=by rw[<-hH.out];exact heap_alloc_new _ _
 have hnews:=World.news_of_block hnw;clear hnw;change Hid _ at hnews;have hsw:w.heap.size=H:=hH.out;have hta:=Ny ⟨x.blk,0,none⟩;have c1a:(w.alloc (.cells #[.pointer (some ⟨x.blk,0,none⟩)] 291)).cell? ⟨rb,1,none⟩=some v:=(World.cell?_alloc_lt _ _ _ hrb).trans c1;go_enter Tryz.func377,Tryz.ntmps377
 go_wp2_with fail
 go_region_law((go_loud(refine step_append_lies _ (by rfl) (.tmp 7) (.tmp 10) 141 (by rfl) 0 291 i0 (.pointer none) 1 8 Tryz.underlying141 hi hz0 hz1 hz2 rfl (by omega) v n xs (by rfl) hown1.out ⟨H,0,none⟩ 1 1 [.pointer (some ⟨x.blk,0,none⟩)] (by rfl) rfl hnews.out (by simp[Value.oneCell']) (by omega) (by unfold maxLen;omega) (by omega) (Nat.zero_le _) (H+1) (by simp[hH.out]) ?_);intro g cap w1 hown2 hgrow hat hlt;have c2:w1.cell? ⟨rb,1,none⟩=some v:=cell_of_row w1 rb 1 _ _ _ (hK1.out w1 hgrow);have f2:w1.frozen? ⟨rb,1,none⟩=false:=frozen_of_row w1 rb _ _ _ (hK1.out w1 hgrow)))
 all_goals
  go_wp2_with fail
  go_end0
  exact Nw hK.out hx hxb hx1 hx2 hnn.out hH.out (hxs.out.symm▸hown2) hgrow hat
end Go.Proofs.YtedcakchekaemaaGreatDoor
