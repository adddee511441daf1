/- Contracts of the program, part 27. -/
import Derived.Test.YtedcakchekaemaaGreatDoorMp18
set_option maxRecDepth 100000
set_option maxHeartbeats 16000000
set_option linter.all false
namespace Go.Proofs.YtedcakchekaemaaGreatDoor
open Go.RowKit
theorem PK{w:World}{b:Nat}{x0 x1 x2 x3 x4 x5:Value}{T:TypeId}(h:w.heap[b]?=some (.cells #[x0,x1,x2,x3,x4,x5] T (0,0))):
  w.cell? ⟨b,0,none⟩=some x0/\w.cell? ⟨b,1,none⟩=some x1/\w.cell? ⟨b,2,none⟩=some x2/\w.cell? ⟨b,3,none⟩=some x3/\w.cell? ⟨b,4,none⟩=some x4/\w.cell? ⟨b,5,none⟩=some x5:=
 ⟨by rw[cell_of_row _ _ _ _ _ _ h];rfl,by rw[cell_of_row _ _ _ _ _ _ h];rfl,by rw[cell_of_row _ _ _ _ _ _ h];rfl,by rw[cell_of_row _ _ _ _ _ _ h];rfl,by rw[cell_of_row _ _ _ _ _ _ h];rfl,by rw[cell_of_row _ _ _ _ _ _ h];rfl⟩
theorem fz6{w:World}{b:Nat}{x0 x1 x2 x3 x4 x5:Value}{T:TypeId}(h:w.heap[b]?=some (.cells #[x0,x1,x2,x3,x4,x5] T (0,0))):
  w.frozen? ⟨b,0,none⟩=false/\w.frozen? ⟨b,1,none⟩=false/\w.frozen? ⟨b,2,none⟩=false/\w.frozen? ⟨b,3,none⟩=false/\w.frozen? ⟨b,4,none⟩=false/\w.frozen? ⟨b,5,none⟩=false/\b<w.heap.size:=
 ⟨frozen_of_row w b 0 _ _ h,frozen_of_row w b 1 _ _ h,frozen_of_row w b 2 _ _ h,frozen_of_row w b 3 _ _ h,frozen_of_row w b 4 _ _ h,frozen_of_row w b 5 _ _ h,aj h⟩
def Kj(w:World)(b:Nat)(u0 u1 u2 u3 u4 u5:Value):World:=
 (((((w.setCell ⟨b,0,none⟩ u0).setCell ⟨b,1,none⟩ u1).setCell ⟨b,2,none⟩ u2).setCell ⟨b,3,none⟩ u3).setCell ⟨b,4,none⟩ u4).setCell ⟨b,5,none⟩ u5
theorem ae6{w:World}{b:Nat}{x0 x1 x2 x3 x4 x5:Value}{T:TypeId}(h:w.heap[b]?=some (.cells #[x0,x1,x2,x3,x4,x5] T (0,0)))(u0 u1 u2 u3 u4 u5:Value):
  (Kj w b u0 u1 u2 u3 u4 u5).heap[b]?=some (.cells #[u0,u1,u2,u3,u4,u5] T (0,0)):=by
 have h1:=heap_setCell_same w b 0 _ T u0 h;have h2:=heap_setCell_same _ b 1 _ T u1 h1;have h3:=heap_setCell_same _ b 2 _ T u2 h2;have h4:=heap_setCell_same _ b 3 _ T u3 h3;have h5:=heap_setCell_same _ b 4 _ T u4 h4;have h6:=heap_setCell_same _ b 5 _ T u5 h5;simpa[Kj]using h6
theorem ae7{w w':World}(h:ai [] w w'){b:Nat}(hb:w.heap.size<=b)(u0 u1 u2 u3 u4 u5:Value):ai [] w (Kj w' b u0 u1 u2 u3 u4 u5):=
 (((((h.setCell (.inr hb) _).setCell (.inr hb) _).setCell (.inr hb) _).setCell (.inr hb) _).setCell (.inr hb) _).setCell (.inr hb) _
def kQ:Value:=.agg #[.int .u64 0,.bool false,.int .u64 0,.string ⟨#[]⟩,.string ⟨#[]⟩,.slice none 0 0]
theorem Lv(a:Option Addr)(c:Nat)(w:World):Calls Tryz.prog 164 #[.slice a 0 c] w fun e w'=>e=.returned (.tuple #[.slice none 0 0,.int .i64 0])/\ai [] w w':=by
 have hO:ai [] w (w.alloc (.cells #[.slice a 0 c,.int .i64 0,.slice none 0 0,.slice none 0 0] 339)):=(ai.refl _ _).alloc _;obtain⟨f0,f1,f2,f3⟩:=fI (heap_alloc_new w (.cells #[.slice a 0 c,.int .i64 0,.slice none 0 0,.slice none 0 0] 339));go_enter Tryz.func164,Tryz.ntmps164
 go_wp2_with fail
 refine wp_loop_rounds 1 ?_;rw[rounds_succ];go_wp2_with fail
 go_ret2
 exact⟨rfl,hO⟩
theorem Lx(f:Value)(w:World):Calls Tryz.prog 211 #[.slice none 0 0,f] w fun e w'=>e=.returned (.slice none 0 0)/\w=w':=by
 go_enter Tryz.func211,Tryz.ntmps211
 go_wp2_with fail
 refine wp_loop_rounds 1 ?_;rw[rounds_succ];go_wp2_with fail
 go_ret
 exact⟨rfl,rfl⟩
theorem LA(n:Int)(w:World):Calls Tryz.prog 166 #[.slice none 0 0,.int .i64 n] w fun e w'=>e=.returned (.slice none 0 0)/\ai [] w w':=by
 have hO:ai [] w (w.alloc (.cells #[.int .i64 n] 3)):=(ai.refl _ _).alloc _;have cP:=af (fun f W=>Lx f W);go_enter Tryz.func166,Tryz.ntmps166
 go_wp2_with(go_at_call 211;((with_reducible refine(cP.out _ _).mono ?_);rintro e w2 ⟨rfl,rfl⟩))
 go_ret
 exact⟨rfl,hO⟩
theorem GR(w:World):Calls Tryz.prog 165 #[.slice none 0 0] w fun e w'=>e=.returned (.tuple #[kQ,.int .i64 0])/\ai [] w w':=by
 go_enter Tryz.func165,Tryz.ntmps165
 go_wp2_with fail
 refine wp_loop_rounds 1 ?_;rw[rounds_succ];go_wp2_with fail
 obtain⟨g0,g1,g2,g3,g4,g5⟩:=PK (((ai.refl [] (w.alloc (.cells #[.int .u64 0,.bool false,.int .u64 0,.string ⟨#[]⟩,.string ⟨#[]⟩,.slice none 0 0] 54))).alloc (.cells #[.int .u64 0,.bool false,.int .u64 0,.string ⟨#[]⟩,.string ⟨#[]⟩,.slice none 0 0] 54)).heap (heap_alloc_new w _) (by simp));refine bodyPost_ret (v:=.tuple #[kQ,.int .i64 0]) (by simp[results,Tryz.results165,go_sem,g0,g1,g2,g3,g4,g5];try rfl) rfl ⟨rfl,((ai.refl [] w).alloc _).alloc _⟩
theorem PL(a:Option Addr)(c:Nat)(w:World):Calls Tryz.prog 94 #[.slice a 0 c] w fun e w'=>e=.returned (.tuple #[kQ,.int .i64 0])/\ai [] w w':=by
 have aL:ai [] w (w.alloc (.cells #[.int .u64 0,.bool false,.int .u64 0,.string ⟨#[]⟩,.string ⟨#[]⟩,.slice none 0 0] 54)):=(ai.refl _ _).alloc _;have hb:=heap_alloc_new w (.cells #[.int .u64 0,.bool false,.int .u64 0,.string ⟨#[]⟩,.string ⟨#[]⟩,.slice none 0 0] 54);have cW:=af (Lv a c (w.alloc (.cells #[.int .u64 0,.bool false,.int .u64 0,.string ⟨#[]⟩,.string ⟨#[]⟩,.slice none 0 0] 54)));have cP:=af GR;have cA:=af (LA 2);change Hid _ at hb;replace aL:=af aL;go_enter Tryz.func94,Tryz.ntmps94
 go_wp2_with fail
 refine cW.out.mono ?_;rintro e w1 ⟨rfl,hO⟩;replace aL:Hid (ai [] w w1):=af (aL.out.trans hO);replace hb:=af (hO.heap hb.out (by simp));clear hO cW;go_wp2_with fail
 refine(cP.out w1).mono ?_;rintro e w2 ⟨rfl,hO⟩;unfold kQ;replace aL:Hid (ai [] w w2):=af (aL.out.trans hO);replace hb:=af (hO.heap hb.out (by simp));clear hO cP;have hb3:=heap_alloc_new w2 (.cells #[.int .u64 0,.bool false,.int .u64 0,.string ⟨#[]⟩,.string ⟨#[]⟩,.slice none 0 0] 54);have hb0:=((ai.refl [] w2).alloc (.cells #[.int .u64 0,.bool false,.int .u64 0,.string ⟨#[]⟩,.string ⟨#[]⟩,.slice none 0 0] 54)).heap hb.out (by simp);have hO3:Hid (ai [] w (w2.alloc (.cells #[.int .u64 0,.bool false,.int .u64 0,.string ⟨#[]⟩,.string ⟨#[]⟩,.slice none 0 0] 54))):=af (aL.out.alloc _);go_wp2_with fail
 refine(cA.out _).mono ?_;rintro e w3 ⟨rfl,hO⟩;have hO4:ai [] w w3:=hO3.out.trans hO;have hc3:=hO.heap hb3 (by simp);have hc0:=hO.heap hb0 (by simp);clear hO hO3 hb3 hb0 hb aL cA;obtain⟨f0,f1,f2,f3,f4,f5⟩:=PK hc3;obtain⟨y0,y1,y2,y3,y4,y5⟩:=PK hc0;obtain⟨z0,z1,z2,z3,z4,z5,zl⟩:=fz6 hc0;have hr1:=ae6 hc0 (.int .u64 0) (.bool false) (.int .u64 0) (.string ⟨#[]⟩) (.string ⟨#[]⟩) (.slice none 0 0);have ho1:=ae7 hO4 (Nat.le_refl _) (.int .u64 0) (.bool false) (.int .u64 0) (.string ⟨#[]⟩) (.string ⟨#[]⟩) (.slice none 0 0);clear hc0 hc3 hO4;go_wp2_with fail
 refine wp_loop_rounds 1 ?_;rw[rounds_succ];go_wp2_with fail
 obtain⟨g0,g1,g2,g3,g4,g5⟩:=PK hr1;unfold Kj at g0 g1 g2 g3 g4 g5;refine bodyPost_ret (v:=.tuple #[kQ,.int .i64 0]) (by simp[results,Tryz.results94,go_sem,g0,g1,g2,g3,g4,g5];try rfl) rfl ⟨rfl,ho1⟩
theorem LB{w:World}{b:Nat}{x0 x1 x2 x3 x4 x5 x6 x7 x8:Value}{T:TypeId}(h:w.heap[b]?=some (.cells #[x0,x1,x2,x3,x4,x5,x6,x7,x8] T (0,0))):
  w.cell? ⟨b,0,none⟩=some x0/\w.cell? ⟨b,1,none⟩=some x1/\w.cell? ⟨b,2,none⟩=some x2/\w.cell? ⟨b,3,none⟩=some x3/\w.cell? ⟨b,4,none⟩=some x4/\w.cell? ⟨b,5,none⟩=some x5/\w.cell? ⟨b,6,none⟩=some x6/\w.cell? ⟨b,7,none⟩=some x7/\w.cell? ⟨b,8,none⟩=some x8:=
 ⟨by rw[cell_of_row _ _ _ _ _ _ h];rfl,by rw[cell_of_row _ _ _ _ _ _ h];rfl,by rw[cell_of_row _ _ _ _ _ _ h];rfl,by rw[cell_of_row _ _ _ _ _ _ h];rfl,by rw[cell_of_row _ _ _ _ _ _ h];rfl,by rw[cell_of_row _ _ _ _ _ _ h];rfl,by rw[cell_of_row _ _ _ _ _ _ h];rfl,by rw[cell_of_row _ _ _ _ _ _ h];rfl,by rw[cell_of_row _ _ _ _ _ _ h];rfl⟩
theorem abL{w:World}{b:Nat}{x0 x1 x2 x3 x4 x5 x6 x7:Value}{T:TypeId}(h:w.heap[b]?=some (.cells #[x0,x1,x2,x3,x4,x5,x6,x7] T (0,0))):
  w.cell? ⟨b,0,none⟩=some x0/\w.cell? ⟨b,1,none⟩=some x1/\w.cell? ⟨b,2,none⟩=some x2/\w.cell? ⟨b,3,none⟩=some x3/\w.cell? ⟨b,4,none⟩=some x4/\w.cell? ⟨b,5,none⟩=some x5/\w.cell? ⟨b,6,none⟩=some x6/\w.cell? ⟨b,7,none⟩=some x7:=
 ⟨by rw[cell_of_row _ _ _ _ _ _ h];rfl,by rw[cell_of_row _ _ _ _ _ _ h];rfl,by rw[cell_of_row _ _ _ _ _ _ h];rfl,by rw[cell_of_row _ _ _ _ _ _ h];rfl,by rw[cell_of_row _ _ _ _ _ _ h];rfl,by rw[cell_of_row _ _ _ _ _ _ h];rfl,by rw[cell_of_row _ _ _ _ _ _ h];rfl,by rw[cell_of_row _ _ _ _ _ _ h];rfl⟩
def nP(w:World)(b r a:Nat)(g n:ByteArray)(p:Bool):Prop:=
 w.heap[b]?=some (.cells #[.string g,.string n,.bool false,.int .i64 0,.pointer (some ⟨r,0,none⟩),.bool p,.slice none 0 0,.pointer (some ⟨a,0,none⟩),.slice none 0 0] 159)/\
 w.heap[r]?=some (.cells #[.int .u8 0,.bool false,.bool true] 212)
theorem nP.own{w w':World}{b r a:Nat}{g n:ByteArray}{p:Bool}(h:nP w b r a g n p)(ho:ai [] w w'):nP w' b r a g n p:=
 ⟨ho.heap h.1 (by simp),ho.heap h.2 (by simp)⟩
theorem LC(g n:ByteArray)(hg:(g.toList==[])=false)(hn:(n.toList==[])=false)(w:World):Calls Tryz.prog 93 #[.string g,.string n] w fun e w'=>
  ∃b r a,e=.returned (.tuple #[.pointer (some ⟨b,0,none⟩),.int .i64 0])/\ai [] w w'/\w.heap.size<=b/\b≠r/\w.heap.size<=r/\nP w' b r a g n false:=by
 have hmm:= @run_makeMap Tryz.prog;go_enter Tryz.func93,Tryz.ntmps93
 go_wp2_with go_in
 go_ret2
 refine⟨_,w.heap.size,w.heap.size+1+1,rfl,((((ai.refl [] w).alloc _).alloc _).alloc _).alloc _,?_,?_,?_,?_,?_⟩
 ·omega
 ·omega
 ·omega
 ·have:=heap_alloc_new (((w.alloc (.cells #[.int .u8 0,.bool false,.bool true] 212)).alloc (.map #[] 0)).alloc (.cells #[.map (some (w.heap.size+1))] 336)) (.cells #[.string g,.string n,.bool false,.int .i64 0,.pointer (some ⟨w.heap.size,0,none⟩),.bool false,.slice none 0 0,.pointer (some ⟨w.heap.size+1+1,0,none⟩),.slice none 0 0] 159)
  simpa using this
 ·exact((((ai.refl [] _).alloc _).alloc _).alloc _).heap (heap_alloc_new w _) (by simp)
theorem DR{w:World}{b r a:Nat}{g n:ByteArray}{p:Bool}(h:nP w b r a g n p)(hbr:b≠r)(d:ByteArray):
  Calls Tryz.prog 96 #[.pointer (some ⟨b,0,none⟩),.int .i64 3,.string d,kQ] w fun e w'=>e=.returned (.int .i64 5)/\ai [b] w w'/\nP w' b r a g n true:=by
 unfold kQ;have hP1:=(ai.refl [] w).alloc (.cells #[.int .u64 0,.bool false,.int .u64 0,.string ⟨#[]⟩,.string ⟨#[]⟩,.slice none 0 0] 54);have hP2:=hP1.alloc (.cells #[.int .u64 0,.bool false,.int .u64 0,.string ⟨#[]⟩,.string ⟨#[]⟩,.slice none 0 0] 54);have hF2:=h.own hP2;have hbl:=aj h.1;obtain⟨c0,c1,c2,c3,c4,c5,c6,c7,c8⟩:=LB h.1;obtain⟨d0,d1,d2,d3,d4,d5,d6,d7,d8⟩:=LB (h.own hP1).1;obtain⟨e0,e1,e2,e3,e4,e5,e6,e7,e8⟩:=LB (h.own hP2).1;have z5:=frozen_of_row _ b 5 _ _ (h.own hP2).1;go_enter Tryz.func96,Tryz.ntmps96
 go_wp2_with go_in
 go_ret
 have hS1:ai [b] w (w.setCell ⟨b,5,none⟩ (.bool true)):=(ai.refl [b] w).setCell (.inl (by simp)) _;have hS2:=(((ai.refl [] (w.setCell ⟨b,5,none⟩ (.bool true))).alloc (.cells #[.int .u64 0,.bool false,.int .u64 0,.string ⟨#[]⟩,.string ⟨#[]⟩,.slice none 0 0] 54)).alloc (.cells #[.int .u64 0,.bool false,.int .u64 0,.string ⟨#[]⟩,.string ⟨#[]⟩,.slice none 0 0] 54));refine⟨rfl,hS1.trans hS2.nil,?_,?_⟩
 ·have:=heap_setCell_same _ b 5 _ _ (.bool true) h.1
  exact hS2.heap (by simpa using this) (by simp)
 ·exact hS2.heap (hS1.heap h.2 (by simpa using fun e=>hbr e.symm)) (by simp)
theorem GU(W:World):Calls Tryz.prog 60 #[.slice none 0 0] W fun e w'=>e=.returned (.slice none 0 0)/\W=w':=by
 have hq:=fun w a n c=>Lib.run_eql_slice_nil (P:=Tryz.prog) w 35 162 a n c 0 0 Tryz.underlying35
 go_enter Tryz.func60,Tryz.ntmps60
 go_wp2_with go_in
 go_ret
 exact⟨rfl,rfl⟩
theorem DT{W:World}{r:Nat}(h:W.heap[r]?=some (.cells #[.int .u8 0,.bool false,.bool true] 212)):Calls Tryz.prog 61 #[.pointer (some ⟨r,0,none⟩)] W fun e w'=>e=.returned (.tuple #[.int .i64 0,.bool false])/\W=w':=by
 have c0:W.cell? ⟨r,0,none⟩=some (.int .u8 0):=by rw[cell_of_row _ _ _ _ _ _ h];rfl
 have c1:W.cell? ⟨r,1,none⟩=some (.bool false):=by rw[cell_of_row _ _ _ _ _ _ h];rfl
 have c2:W.cell? ⟨r,2,none⟩=some (.bool true):=by rw[cell_of_row _ _ _ _ _ _ h];rfl
 go_enter Tryz.func61,Tryz.ntmps61
 go_wp2_with go_in
 go_ret2
 exact⟨rfl,rfl⟩
theorem DU{w:World}{b r a:Nat}{g n:ByteArray}{p:Bool}(h:nP w b r a g n p):
  Calls Tryz.prog 25 #[.pointer (some ⟨b,0,none⟩)] w fun e w'=>e=.returned (.agg #[.string g,.string n,.bool false,.int .i64 0,.int .i64 0,.bool p,.slice none 0 0,.slice none 0 0])/\ai [] w w':=by
 have hP1:=(ai.refl [] w).alloc (.cells #[.string ⟨#[]⟩,.string ⟨#[]⟩,.bool false,.int .i64 0,.int .i64 0,.bool false,.slice none 0 0,.slice none 0 0] 38);obtain⟨c0,c1,c2,c3,c4,c5,c6,c7,c8⟩:=LB h.1;obtain⟨d0,d1,d2,d3,d4,d5,d6,d7,d8⟩:=LB (h.own hP1).1;go_enter Tryz.func25,Tryz.ntmps25
 have cC:=af GU;go_wp2_with(first|(go_at_call 59;go_in))
 go_region_held3(fun W'=>W'.cell? ⟨b,0,none⟩=some (.string g)/\W'.cell? ⟨b,1,none⟩=some (.string n)/\W'.cell? ⟨b,2,none⟩=some (.bool false)/\W'.cell? ⟨b,5,none⟩=some (.bool p)/\W'.cell? ⟨b,6,none⟩=some (.slice none 0 0)) (go_keep) ((go_at_call 60;((with_reducible refine(cC.out _).mono ?_);rintro e w2 ⟨rfl,rfl⟩)))
 all_goals
  have hP2:=(hP1.alloc (.cells #[.string g,.string n,.bool false,.int .i64 0,.int .i64 0,.bool p,.slice none 0 0,.slice none 0 0] 38)).drew;have hF2:=h.own hP2;have hW:=af (DT hF2.2);obtain⟨e0,e1,e2,e3,e4,e5,e6,e7,e8⟩:=LB hF2.1;go_wp2_with(go_at_call 61;((with_reducible refine hW.out.mono ?_);rintro e w2 ⟨rfl,rfl⟩))
  refine wp_loop_rounds 1 ?_;rw[rounds_succ];go_wp2_with fail
  have hO:=(((ai.refl [] w).alloc (.cells #[.string g,.string n,.bool false,.int .i64 0,.int .i64 0,.bool p,.slice none 0 0,.slice none 0 0] 38)).alloc (.cells #[.string g,.string n,.bool false,.int .i64 0,.int .i64 0,.bool p,.slice none 0 0,.slice none 0 0] 38)).drew;have hO2:=((ai.refl [] (w.alloc (.cells #[.string g,.string n,.bool false,.int .i64 0,.int .i64 0,.bool p,.slice none 0 0,.slice none 0 0] 38))).alloc (.cells #[.string g,.string n,.bool false,.int .i64 0,.int .i64 0,.bool p,.slice none 0 0,.slice none 0 0] 38)).drew;obtain⟨g0,g1,g2,g3,g4,g5,g6,g7⟩:=abL (hO2.heap (heap_alloc_new w _) (by simp));refine bodyPost_ret (v:=.agg #[.string g,.string n,.bool false,.int .i64 0,.int .i64 0,.bool p,.slice none 0 0,.slice none 0 0]) (by simp[results,Tryz.results25,go_sem,g0,g1,g2,g3,g4,g5,g6,g7];try rfl) rfl ⟨rfl,hO⟩
end Go.Proofs.YtedcakchekaemaaGreatDoor
