/- Contracts of the program, part 4. -/
import Derived.Test.YtedcakchekaemaaGreatDoorMp02
import Derived.Lib.ConvBytes
import Derived.StillTailTactics
import Derived.Deep.RegionHeld3
set_option maxRecDepth 100000
set_option maxHeartbeats 16000000
set_option linter.all false
namespace Go.Proofs.YtedcakchekaemaaGreatDoor
open Go.RowKit
def qN(ik:IntKind)(wd:Nat)(B:List Int):Nat->Int
 |0=>0
 |k+1=>Go.bits .or ik (qN ik wd B k) (ik.wrap (ik.wrap (B.getD k 0)*2^min (8*k) wd))
def kV(ik:IntKind)(bw wd:Nat)(B:List Int)(at':Int):Int×Int×Int:=
 if lT B.length at' wd=0 then(qN ik bw ((B.drop at'.toNat).take wd) wd,at'+wd,0)else(0,0,lT B.length at' wd)
theorem EA(v:Value)(B:List Int)(w:World)(h:aG bL w v B)(hl:B.length<=8):
  Calls Tryz.prog 345 #[v] w fun e w'=>e=.returned (.int .u32 (qN .u32 32 B B.length))/\w=w':=by
 obtain⟨a,c,rfl⟩:=h.form;have hc:Hid (∀k,k<B.length-> ∃q,B.getD k 0=q/\ ∃bb oo,a=some ⟨bb,oo,none⟩/\w.cell? ⟨bb,oo+k,none⟩=some (.int .u8 q)):=af fun k hk=>by
  obtain⟨q,hq⟩: ∃q,B[k]?=some q:=⟨_,List.getElem?_eq_getElem hk⟩;obtain⟨bb,oo,hab,hx⟩:=h.at_ wL (by omega);have e:=hx k q 0 _ hq rfl;simp only[Nat.mul_one,Nat.add_zero]at e;exact⟨q,by simp[List.getD,hq],bb,oo,hab,e⟩
 clear h;obtain⟨R,hR⟩: ∃R,qN .u32 32 B B.length=R:=⟨_,rfl⟩;rw[hR];change Hid _ at hR;generalize B.length=n at*;go_enter Tryz.func345,Tryz.ntmps345
 go_wp2_with fail
 go_loopg[3,7] n (fun g s3 s7 wr=> ∃(k:Nat) (x:Int),k<=n/\g=n-k/\s3=.int .u32 x/\s7=.int .i64 k/\wr=w/\Aside (x=qN .u32 32 B k))
 case atStart=>exact⟨0,0,Nat.zero_le _,rfl,rfl,rfl,rfl,rfl⟩
 case round=>
  obtain⟨k,x,hk,rfl,rfl,rfl,rfl,hx⟩:=hrel;by_cases hkn:k<n
  ·obtain⟨q,hq,bb,oo,rfl,c0⟩:=hc.out k hkn
   have hw:IntKind.wrap .i64 (8*(k:Int))=8*(k:Int):=by rw[IntKind.wrap_i64];omega
   have h8:(0:Int)<=8*(k:Int):=by omega
   have hmin:min (8*k) 64=8*k:=Nat.min_eq_left (by omega);change Hid _ at hx hq;go_wp2_with fail
   go_roundg(n-(k+1))
   case measure=>omega
   case rel=>
    refine⟨k+1,_,by omega,rfl,rfl,by go_num,rfl,?_⟩;rw[hx.out,<-hq.out];unfold Aside
    first
     |rfl
     |(show _=Go.bits .or .u32 (qN .u32 32 B k) (IntKind.u32.wrap (IntKind.u32.wrap (B.getD k 0)*2^min (8*k) 32));first|rw[hmin]|simp[IntKind.wrap_u32])
  ·obtain rfl:k=n:=by omega
   have hxR:x=R:=hx.trans hR.out;subst hxR;clear hx;go_wp2_with fail
   go_ret
   exact⟨rfl,rfl⟩
theorem Ib(v:Value)(B:List Int)(at':Int)(w:World)(h:aG bL w v B)(hc:eZ v)(hl:B.length<=140737488351232)(ha:at'<=140737488351232):
  Calls Tryz.prog 334 #[v,.int .i64 at',.int .i64 4] w fun e w'=>e=.returned (.tuple #[.int .u32 (kV .u32 32 4 B at').1,.int .i64 (kV .u32 32 4 B at').2.1,.int .i64 (kV .u32 32 4 B at').2.2])/\w=w':=by
 unfold kV;by_cases hb:lT B.length at' 4=0
 ·rw[if_pos (by simpa using hb)]
  have hi:0<=at'/\at'.toNat+4<=B.length:=by
   unfold lT at hb;split at hb
   ·cases hb
   ·split at hb
    ·cases hb
    ·rename_i h1 h2
     have h3: ¬at'<0:=fun h=>h1 (.inl h)
     omega
  have hat:at'=(at'.toNat:Int):=by omega
  generalize at'.toNat=i at*;subst hat;have cC:=Ql v B i 4 w h hc hl hi.2;rw[show((4:Nat):Int)=4 from rfl]at cC;replace cC:=af cC;have hlen:((B.drop i).take 4).length=4:=by rw[List.length_take,List.length_drop];omega
  have cR:=af fun v1 (h1:aG bL w v1 ((B.drop i).take 4))=>EA v1 ((B.drop i).take 4) w h1 (by omega)
  rw[hlen]at cR;have hw:IntKind.wrap .i64 ((i:Int)+4)=(i:Int)+4:=by rw[IntKind.wrap_i64];omega
  obtain⟨a,c,rfl⟩:=h.form;change Hid _ at hlen;clear h hc hb;generalize qN .u32 32 ((B.drop i).take 4) 4=R at*;go_enter Tryz.func334,Tryz.ntmps334
  go_wp2_with(first
   |(go_at_call 343;(with_reducible refine cC.out.mono ?_);rintro e w1 ⟨⟨v1,rfl,gU,hc1⟩,rfl⟩;have yA:=af (cR.out v1 gU);obtain⟨a1,n1,hv⟩:=gU.form;rw[hlen.out]at hv;subst hv;clear gU hc1)
   |(go_at_call 345;(with_reducible refine yA.out.mono ?_);rintro e w2 ⟨rfl,rfl⟩))
  go_ret3
  exact⟨rfl,rfl⟩
 ·rw[if_neg (by simpa using hb)]
  have cC:=af (Kz v B at' 4 w h hl ha hb);obtain⟨a,c,rfl⟩:=h.form;have hbz:(lT B.length at' 4 !=0)=true:=by simpa using hb
  have hbq:(lT B.length at' 4==0)=false:=by simpa using hb
  generalize lT B.length at' 4=R at*;clear h hc hb;go_enter Tryz.func334,Tryz.ntmps334
  go_wp2_with(go_at_call 343;(with_reducible refine cC.out.mono ?_);rintro e w1 ⟨rfl,rfl⟩)
  go_ret3
  exact⟨rfl,rfl⟩
theorem Qy(v:Value)(B:List Int)(at':Int)(w:World)(h:aG bL w v B)(hc:eZ v)(hl:B.length<=140737488351232)(ha:at'<=140737488351232):
  Calls Tryz.prog 319 #[v,.int .i64 at'] w fun e w'=>e=.returned (.tuple #[.int .u32 (kV .u32 32 4 B at').1,.int .i64 (kV .u32 32 4 B at').2.1,.int .i64 (kV .u32 32 4 B at').2.2])/\w=w':=by
 have cR:=af (Ib v B at' w h hc hl ha);generalize kV .u32 32 4 B at'=R at*;obtain⟨a,c,rfl⟩:=h.form;clear h hc;go_enter Tryz.func319,Tryz.ntmps319
 go_wp2_with(go_at_call 334;(with_reducible refine cR.out.mono ?_);rintro e w1 ⟨rfl,rfl⟩)
 go_ret3
 exact⟨rfl,rfl⟩
theorem EB(v:Value)(B:List Int)(w:World)(h:aG bL w v B)(hl:B.length<=8):
  Calls Tryz.prog 344 #[v] w fun e w'=>e=.returned (.int .u64 (qN .u64 64 B B.length))/\w=w':=by
 obtain⟨a,c,rfl⟩:=h.form;have hc:Hid (∀k,k<B.length-> ∃q,B.getD k 0=q/\ ∃bb oo,a=some ⟨bb,oo,none⟩/\w.cell? ⟨bb,oo+k,none⟩=some (.int .u8 q)):=af fun k hk=>by
  obtain⟨q,hq⟩: ∃q,B[k]?=some q:=⟨_,List.getElem?_eq_getElem hk⟩;obtain⟨bb,oo,hab,hx⟩:=h.at_ wL (by omega);have e:=hx k q 0 _ hq rfl;simp only[Nat.mul_one,Nat.add_zero]at e;exact⟨q,by simp[List.getD,hq],bb,oo,hab,e⟩
 clear h;obtain⟨R,hR⟩: ∃R,qN .u64 64 B B.length=R:=⟨_,rfl⟩;rw[hR];change Hid _ at hR;generalize B.length=n at*;go_enter Tryz.func344,Tryz.ntmps344
 go_wp2_with fail
 go_loopg[3,7] n (fun g s3 s7 wr=> ∃(k:Nat) (x:Int),k<=n/\g=n-k/\s3=.int .u64 x/\s7=.int .i64 k/\wr=w/\Aside (x=qN .u64 64 B k))
 case atStart=>exact⟨0,0,Nat.zero_le _,rfl,rfl,rfl,rfl,rfl⟩
 case round=>
  obtain⟨k,x,hk,rfl,rfl,rfl,rfl,hx⟩:=hrel;by_cases hkn:k<n
  ·obtain⟨q,hq,bb,oo,rfl,c0⟩:=hc.out k hkn
   have hw:IntKind.wrap .i64 (8*(k:Int))=8*(k:Int):=by rw[IntKind.wrap_i64];omega
   have h8:(0:Int)<=8*(k:Int):=by omega
   have hmin:min (8*k) 64=8*k:=Nat.min_eq_left (by omega);change Hid _ at hx hq;go_wp2_with fail
   go_roundg(n-(k+1))
   case measure=>omega
   case rel=>
    refine⟨k+1,_,by omega,rfl,rfl,by go_num,rfl,?_⟩;rw[hx.out,<-hq.out];unfold Aside
    first
     |rfl
     |(show _=Go.bits .or .u64 (qN .u64 64 B k) (IntKind.u64.wrap (IntKind.u64.wrap (B.getD k 0)*2^min (8*k) 64));first|rw[hmin]|simp[IntKind.wrap_u32])
  ·obtain rfl:k=n:=by omega
   have hxR:x=R:=hx.trans hR.out;subst hxR;clear hx;go_wp2_with fail
   go_ret
   exact⟨rfl,rfl⟩
theorem Ic(v:Value)(B:List Int)(at':Int)(w:World)(h:aG bL w v B)(hc:eZ v)(hl:B.length<=140737488351232)(ha:at'<=140737488351232):
  Calls Tryz.prog 333 #[v,.int .i64 at',.int .i64 8] w fun e w'=>e=.returned (.tuple #[.int .u64 (kV .u64 64 8 B at').1,.int .i64 (kV .u64 64 8 B at').2.1,.int .i64 (kV .u64 64 8 B at').2.2])/\w=w':=by
 unfold kV;by_cases hb:lT B.length at' 8=0
 ·rw[if_pos (by simpa using hb)]
  have hi:0<=at'/\at'.toNat+8<=B.length:=by
   unfold lT at hb;split at hb
   ·cases hb
   ·split at hb
    ·cases hb
    ·rename_i h1 h2
     have h3: ¬at'<0:=fun h=>h1 (.inl h)
     omega
  have hat:at'=(at'.toNat:Int):=by omega
  generalize at'.toNat=i at*;subst hat;have cC:=Ql v B i 8 w h hc hl hi.2;rw[show((8:Nat):Int)=8 from rfl]at cC;replace cC:=af cC;have hlen:((B.drop i).take 8).length=8:=by rw[List.length_take,List.length_drop];omega
  have cR:=af fun v1 (h1:aG bL w v1 ((B.drop i).take 8))=>EB v1 ((B.drop i).take 8) w h1 (by omega)
  rw[hlen]at cR;have hw:IntKind.wrap .i64 ((i:Int)+8)=(i:Int)+8:=by rw[IntKind.wrap_i64];omega
  obtain⟨a,c,rfl⟩:=h.form;change Hid _ at hlen;clear h hc hb;generalize qN .u64 64 ((B.drop i).take 8) 8=R at*;go_enter Tryz.func333,Tryz.ntmps333
  go_wp2_with(first
   |(go_at_call 343;(with_reducible refine cC.out.mono ?_);rintro e w1 ⟨⟨v1,rfl,gU,hc1⟩,rfl⟩;have yA:=af (cR.out v1 gU);obtain⟨a1,n1,hv⟩:=gU.form;rw[hlen.out]at hv;subst hv;clear gU hc1)
   |(go_at_call 344;(with_reducible refine yA.out.mono ?_);rintro e w2 ⟨rfl,rfl⟩))
  go_ret3
  exact⟨rfl,rfl⟩
 ·rw[if_neg (by simpa using hb)]
  have cC:=af (Kz v B at' 8 w h hl ha hb);obtain⟨a,c,rfl⟩:=h.form;have hbz:(lT B.length at' 8 !=0)=true:=by simpa using hb
  have hbq:(lT B.length at' 8==0)=false:=by simpa using hb
  generalize lT B.length at' 8=R at*;clear h hc hb;go_enter Tryz.func333,Tryz.ntmps333
  go_wp2_with(go_at_call 343;(with_reducible refine cC.out.mono ?_);rintro e w1 ⟨rfl,rfl⟩)
  go_ret3
  exact⟨rfl,rfl⟩
theorem Qz(v:Value)(B:List Int)(at':Int)(w:World)(h:aG bL w v B)(hc:eZ v)(hl:B.length<=140737488351232)(ha:at'<=140737488351232):
  Calls Tryz.prog 318 #[v,.int .i64 at'] w fun e w'=>e=.returned (.tuple #[.int .u64 (kV .u64 64 8 B at').1,.int .i64 (kV .u64 64 8 B at').2.1,.int .i64 (kV .u64 64 8 B at').2.2])/\w=w':=by
 have cR:=af (Ic v B at' w h hc hl ha);generalize kV .u64 64 8 B at'=R at*;obtain⟨a,c,rfl⟩:=h.form;clear h hc;go_enter Tryz.func318,Tryz.ntmps318
 go_wp2_with(go_at_call 333;(with_reducible refine cR.out.mono ?_);rintro e w1 ⟨rfl,rfl⟩)
 go_ret3
 exact⟨rfl,rfl⟩
end Go.Proofs.YtedcakchekaemaaGreatDoor
namespace Go.Proofs.YtedcakchekaemaaGreatDoor
open Go.RowKit Go.Shelf
variable [Kd]
attribute [local go_sem] Oper.semAt_some
section
variable {w W : World} {x0 x y : Int} {n : Int}
theorem KeepsOthers.drew'(W:World):KeepsOthers W W.drew:=⟨Nat.le_refl _,fun _ _ h _=>h⟩
theorem Ey(k1:W.heap[w.heap.size]?=some (.cells #[.int .u64 x0] 51 (0,0)))(k2:W.heap[w.heap.size+1]?=some (.cells #[.int .i64 n] 3 (0,0)))(k3:W.heap[w.heap.size+1+1]?=some (.cells #[.bool false] 4 (0,0)))(hB:Below w.heap.size w W):
  KeepsOthers W (W.setCell ⟨w.heap.size+1,0,none⟩ (.int .i64 y))/\
  ((W.setCell ⟨w.heap.size+1,0,none⟩ (.int .i64 y)).heap[w.heap.size]?=some (.cells #[.int .u64 x0] 51 (0,0))/\(W.setCell ⟨w.heap.size+1,0,none⟩ (.int .i64 y)).heap[w.heap.size+1]?=some (.cells #[.int .i64 y] 3 (0,0))/\(W.setCell ⟨w.heap.size+1,0,none⟩ (.int .i64 y)).heap[w.heap.size+1+1]?=some (.cells #[.bool false] 4 (0,0)))/\
  Below w.heap.size w (W.setCell ⟨w.heap.size+1,0,none⟩ (.int .i64 y)):=by
 have hO:ai [w.heap.size+1] W (W.setCell ⟨w.heap.size+1,0,none⟩ (.int .i64 y)):=(ai.refl _ _).setCell (.inl (by simp)) _;exact⟨KeepsOthers.setCell _ _ _,⟨hO.heap k1 (by simp),heap_setCell_same _ _ _ _ _ _ k2,hO.heap k3 (by simp)⟩,hB.setCell (by show w.heap.size<=w.heap.size+1;omega) _⟩
theorem Ez(k1:W.heap[w.heap.size]?=some (.cells #[.int .u64 x0] 51 (0,0)))(k2:W.heap[w.heap.size+1]?=some (.cells #[.int .i64 n] 3 (0,0)))(k3:W.heap[w.heap.size+1+1]?=some (.cells #[.bool false] 4 (0,0)))(hB:Below w.heap.size w W):
  KeepsOthers W (((W.setCell ⟨w.heap.size+1,0,none⟩ (.int .i64 y)).setCell ⟨w.heap.size,0,none⟩ (.int .u64 x)).drew)/\tV w.heap.size (w.heap.size+1+1+1) W (((W.setCell ⟨w.heap.size+1,0,none⟩ (.int .i64 y)).setCell ⟨w.heap.size,0,none⟩ (.int .u64 x)).drew)/\
  ((((W.setCell ⟨w.heap.size+1,0,none⟩ (.int .i64 y)).setCell ⟨w.heap.size,0,none⟩ (.int .u64 x)).drew).heap[w.heap.size]?=some (.cells #[.int .u64 x] 51 (0,0))/\(((W.setCell ⟨w.heap.size+1,0,none⟩ (.int .i64 y)).setCell ⟨w.heap.size,0,none⟩ (.int .u64 x)).drew).heap[w.heap.size+1]?=some (.cells #[.int .i64 y] 3 (0,0))/\(((W.setCell ⟨w.heap.size+1,0,none⟩ (.int .i64 y)).setCell ⟨w.heap.size,0,none⟩ (.int .u64 x)).drew).heap[w.heap.size+1+1]?=some (.cells #[.bool false] 4 (0,0)))/\
  Below w.heap.size w (((W.setCell ⟨w.heap.size+1,0,none⟩ (.int .i64 y)).setCell ⟨w.heap.size,0,none⟩ (.int .u64 x)).drew):=by
 obtain⟨q1,⟨q2,q3,q4⟩,q5⟩:=Ey (y:=y) k1 k2 k3 hB;have hO:ai [w.heap.size] (W.setCell ⟨w.heap.size+1,0,none⟩ (.int .i64 y)) (((W.setCell ⟨w.heap.size+1,0,none⟩ (.int .i64 y)).setCell ⟨w.heap.size,0,none⟩ (.int .u64 x)).drew):=((ai.refl _ _).setCell (.inl (by simp)) _).drew;have hOW:ai [w.heap.size,w.heap.size+1] W (((W.setCell ⟨w.heap.size+1,0,none⟩ (.int .i64 y)).setCell ⟨w.heap.size,0,none⟩ (.int .u64 x)).drew):=(((ai.refl _ _).setCell (.inl (by simp)) _).setCell (.inl (by simp)) _).drew;have hb:Below w.heap.size W (((W.setCell ⟨w.heap.size+1,0,none⟩ (.int .i64 y)).setCell ⟨w.heap.size,0,none⟩ (.int .u64 x)).drew):=hOW.below hB.size (by simp);exact⟨(q1.trans (KeepsOthers.setCell _ _ _)).trans (KeepsOthers.drew' _),⟨hb,fun o ho _=>hOW.heap ho (by simp;omega)⟩,⟨heap_setCell_same _ _ _ _ _ _ q2,hO.heap q3 (by simp),hO.heap q4 (by simp;omega)⟩,hB.trans hb⟩
theorem Qu(k1:W.heap[w.heap.size]?=some (.cells #[.int .u64 x0] 51 (0,0)))(k2:W.heap[w.heap.size+1]?=some (.cells #[.int .i64 n] 3 (0,0)))(k3:W.heap[w.heap.size+1+1]?=some (.cells #[.bool false] 4 (0,0)))(hB:Below w.heap.size w W):
  KeepsOthers W ((((W.setCell ⟨w.heap.size+1,0,none⟩ (.int .i64 y)).setCell ⟨w.heap.size,0,none⟩ (.int .u64 x)).setCell ⟨w.heap.size+1+1,0,none⟩ (.bool true)).drew)/\
  (((((W.setCell ⟨w.heap.size+1,0,none⟩ (.int .i64 y)).setCell ⟨w.heap.size,0,none⟩ (.int .u64 x)).setCell ⟨w.heap.size+1+1,0,none⟩ (.bool true)).drew).heap[w.heap.size]?=some (.cells #[.int .u64 x] 51 (0,0))/\((((W.setCell ⟨w.heap.size+1,0,none⟩ (.int .i64 y)).setCell ⟨w.heap.size,0,none⟩ (.int .u64 x)).setCell ⟨w.heap.size+1+1,0,none⟩ (.bool true)).drew).heap[w.heap.size+1]?=some (.cells #[.int .i64 y] 3 (0,0))/\((((W.setCell ⟨w.heap.size+1,0,none⟩ (.int .i64 y)).setCell ⟨w.heap.size,0,none⟩ (.int .u64 x)).setCell ⟨w.heap.size+1+1,0,none⟩ (.bool true)).drew).heap[w.heap.size+1+1]?=some (.cells #[.bool true] 4 (0,0)))/\
  Below w.heap.size w ((((W.setCell ⟨w.heap.size+1,0,none⟩ (.int .i64 y)).setCell ⟨w.heap.size,0,none⟩ (.int .u64 x)).setCell ⟨w.heap.size+1+1,0,none⟩ (.bool true)).drew):=by
 obtain⟨q1,q0,⟨q2,q3,q4⟩,q5⟩:=Ez (x:=x) (y:=y) k1 k2 k3 hB;generalize hW1:((W.setCell ⟨w.heap.size+1,0,none⟩ (.int .i64 y)).setCell ⟨w.heap.size,0,none⟩ (.int .u64 x))=W1 at*;have r2:W1.heap[w.heap.size]?=_:=q2;have r3:W1.heap[w.heap.size+1]?=_:=q3;have r4:W1.heap[w.heap.size+1+1]?=_:=q4;have hO:ai [w.heap.size+1+1] W1 ((W1.setCell ⟨w.heap.size+1+1,0,none⟩ (.bool true)).drew):=((ai.refl _ _).setCell (.inl (by simp)) _).drew;have s1:KeepsOthers W W1:=⟨q1.size,q1.same⟩;have s5:Below w.heap.size w W1:=⟨q5.os,q5.tape,q5.output,q5.size,q5.block⟩;exact⟨(s1.trans (KeepsOthers.setCell _ _ _)).trans (KeepsOthers.drew' _),⟨hO.heap r2 (by simp;omega),hO.heap r3 (by simp),heap_setCell_same _ _ _ _ _ _ r4⟩,s5.trans (hO.below s5.size (by simp;omega))⟩
end
def ae9(w:World)(pre:List (Nat×Int))(W:World):Prop:=
 ∃(x:Int) (n:Nat),(n=pre.length/\ ∀r,yc (pre++r) 0 0=yc r x n)/\W.heap[w.heap.size]?=some (.cells #[.int .u64 x] 51 (0,0))/\W.heap[w.heap.size+1]?=some (.cells #[.int .i64 n] 3 (0,0))/\W.heap[w.heap.size+1+1]?=some (.cells #[.bool false] 4 (0,0))
def afa(w:World)(cd:Code)(pre:List (Nat×Int))(W:World):Prop:=
 cd=.exit 0/\ ∃(x:Int) (n:Nat) (d:Bool),(∀r,yc (pre++r) 0 0=(x,n,d))/\W.heap[w.heap.size]?=some (.cells #[.int .u64 x] 51 (0,0))/\W.heap[w.heap.size+1]?=some (.cells #[.int .i64 n] 3 (0,0))/\W.heap[w.heap.size+1+1]?=some (.cells #[.bool d] 4 (0,0))
def oI(B:List Int)(i:Nat)(w:World)(e:Ending)(w':World):Prop:=
 (match oH B i with
  |some (x,j)=>e=.returned (.tuple #[.int .u64 x,.int .i64 j,.int .i64 0])
  |none=> ∃ec:Int,ec≠0/\e=.returned (.tuple #[.int .u64 0,.int .i64 0,.int .i64 ec]))/\ai [] w w'
theorem VE{B:List Int}(hB:pE B){i:Nat}{x:Int}{n:Nat}(h:yc (qL (B.drop i)) 0 0=(x,n,true)):oH B i=some (x,i+n):=by
 rw[Ew]at h;have k:=Co (B.drop i) 0 0 (hB.drop i) (by omega) (by omega) (by simp);unfold oH;cases hv:tq (B.drop i) 0 0 with
 |none=>
  rw[hv]at k;obtain⟨y,m,k⟩:=k;rw[k]at h;cases h
 |some p=>
  rw[hv]at k;simp only at k;rw[k]at h;cases h;rfl
theorem KD{B:List Int}(hB:pE B){i:Nat}{x:Int}{n:Nat}(h:yc (qL (B.drop i)) 0 0=(x,n,false)):oH B i=none:=by
 rw[Ew]at h;have k:=Co (B.drop i) 0 0 (hB.drop i) (by omega) (by omega) (by simp);unfold oH;cases hv:tq (B.drop i) 0 0 with
 |none=>rfl
 |some p=>
  rw[hv]at k;simp only at k;rw[k]at h;cases h
theorem oI.no{B:List Int}{i:Nat}{w w':World}{ec:Int}(h:oH B i=none)(he:ec≠0)(ho:ai [] w w'):oI B i w (.returned (.tuple #[.int .u64 0,.int .i64 0,.int .i64 ec])) w':=by
 unfold oI;rw[h];exact⟨⟨ec,he,rfl⟩,ho⟩
theorem oI.yes{B:List Int}{i j:Nat}{w w':World}{x:Int}(h:oH B i=some (x,j))(ho:ai [] w w'):oI B i w (.returned (.tuple #[.int .u64 x,.int .i64 j,.int .i64 0])) w':=by
 unfold oI;rw[h];exact⟨rfl,ho⟩
theorem Qv(xs:Nat)(xc:Int)(r:List (Nat×Int))(v:Int)(h:1<xc):yc ((xs,xc)::r) v 9=(v,10,false):=by simp only[yc];rw[if_pos (by simpa using h)]
theorem Qw(xs:Nat)(xc:Int)(r:List (Nat×Int))(v:Int)(n:Nat)(h: ¬(n+1=10/\1<xc))(hc:xc<128):
 yc ((xs,xc)::r) v n=(Go.bits .or .u64 v (IntKind.u64.wrap (IntKind.u64.wrap (Go.bits .and .u8 xc 127)*2^min xs 64)),n+1,true):=by simp only[yc];rw[if_neg h,if_pos hc]
theorem Qx(xs:Nat)(xc:Int)(r:List (Nat×Int))(v:Int)(n:Nat)(h: ¬(n+1=10/\1<xc))(hc: ¬xc<128):
 yc ((xs,xc)::r) v n=yc r (Go.bits .or .u64 v (IntKind.u64.wrap (IntKind.u64.wrap (Go.bits .and .u8 xc 127)*2^min xs 64))) (n+1):=by simp only[yc];rw[if_neg h,if_neg hc]
theorem VF(v:Value)(B:List Int)(i:Nat)(w:World)(h:aG bL w v B)(hc:eZ v)(hl:B.length<=140737488351232)(hi:i<=B.length)(hIB:pE B):
  Calls Tryz.prog 289 #[v,.int .i64 i] w (oI B i w):=by
 obtain⟨v1,hs,hR,_,hc1⟩:=h.drop Qk hc (i:=i) hi;obtain⟨a,c,rfl⟩:=h.form;obtain⟨a1,c1,rfl⟩:=hR.form;have hs':=hs (((w.alloc (.cells #[.int .u64 0] 51)).alloc (.cells #[.int .i64 0] 3)).alloc (.cells #[.bool false] 4));have cS:=af fun a n c W=>Qt a n c W
 have h0: ¬((i:Int)<0):=by omega
 have h1:(i:Int)<=B.length:=by omega
 refine(callsIn_wide (n:=7)).1 ?_;refine callsIn_of_wp_marks Tryz.func289 rfl trivial ?_ rfl;simp only[Tryz.ntmps289,List.size_toArray,List.length_cons,List.length_nil,Nat.reduceAdd,Nat.reduceSub,Array.replicate_succ,Array.replicate_zero,List.push_toArray,List.append_toArray,List.nil_append,List.cons_append];refine wpIn_wide.2 ?_;go_wp2
 go_step3
 go_wp2_with(go_at_call 317;(with_reducible refine(cS.out _ _ _ _).mono ?_);rintro e w1 ⟨rfl,rfl⟩)
 go_step3
 go_wp2_with(go_at_call 317;(with_reducible refine(cS.out _ _ _ _).mono ?_);rintro e w1 ⟨rfl,rfl⟩)
 refine(wpIn_wide (n:=6)).1 ?_;obtain⟨W0,hW0⟩: ∃W0,((((w.alloc (.cells #[.int .u64 0] 51)).alloc (.cells #[.int .i64 0] 3)).alloc (.cells #[.bool false] 4)).alloc (.cells #[.slice a1 (B.length-i) c1] 23))=W0:=⟨_,rfl⟩;have hA:ai [] w W0:=by rw[<-hW0];exact((((ai.refl [] w).alloc _).alloc _).alloc _).alloc _
 have hsz:W0.heap.size=w.heap.size+4:=by rw[<-hW0];simp
 have hb3:W0.heap[w.heap.size+1+1+1]?=some (.cells #[.slice a1 (B.length-i) c1] 23 (0,0)):=by
  rw[<-hW0];have:=heap_alloc_new (((w.alloc (.cells #[.int .u64 0] 51)).alloc (.cells #[.int .i64 0] 3)).alloc (.cells #[.bool false] 4)) (.cells #[.slice a1 (B.length-i) c1] 23);simpa using this
 have hlen:(B.drop i).length=B.length-i:=List.length_drop;rw[hW0];refine wpIn_rangeFunc_ownF rfl (by omega) (gf:=332) (lb:=#[.pointer (some ⟨w.heap.size+1+1+1,0,none⟩)]) rfl trivial (enters_of Tryz.func332 (by kernel_rfl) rfl)
  (Qs 5 (by omega) w.heap.size (w.heap.size+1+1+1) a1 c1 (B.drop i) W0 hA.size (by omega) (by rw[hlen];exact hb3) (fun W' hb=>hR.nil' (ai.of_below ((hA.below (Nat.le_refl _) (by simp)).trans hb) (Nat.le_refl _))) (by omega)) (fun h k=>h.trans k) ?b6 (Below.refl _ _) (fun _=>rfl)
  (fun pre W=>ae9 w pre W/\Below w.heap.size w W)
  (fun cd pre W=>afa w cd pre W/\Below w.heap.size w W)
  (OwnFrom.and (Own.from (fun s A B row hs hg hr=>by obtain⟨x,n,e,k1,k2,k3⟩:=hs;exact⟨x,n,e,(grownBy_keeps_cells hg hr k1 rfl).trans k1,(grownBy_keeps_cells hg hr k2 rfl).trans k2,(grownBy_keeps_cells hg hr k3 rfl).trans k3⟩) _) (ownFrom_below (Nat.le_refl _) hA.size))
  (fun cd=>OwnFrom.and (Own.from (fun s A B row hs hg hr=>by obtain⟨ec,x,n,d,e,k1,k2,k3⟩:=hs;exact⟨ec,x,n,d,e,(grownBy_keeps_cells hg hr k1 rfl).trans k1,(grownBy_keeps_cells hg hr k2 rfl).trans k2,(grownBy_keeps_cells hg hr k3 rfl).trans k3⟩) _) (ownFrom_below (Nat.le_refl _) hA.size))
  ?b9 (fun x=>{tmps:=#[.slice a B.length c,.int .i64 i,undef,undef,.int .u64 0,.int .i64 0,.int .i64 0,.pointer (some ⟨w.heap.size,0,none⟩),.pointer (some ⟨w.heap.size+1,0,none⟩),.pointer (some ⟨w.heap.size+1+1,0,none⟩),.int .i64 (x.1:Int),.int .u8 x.2,.int .i64 i,.bool (decide ((i:Int)<0)),.bool (decide ((i:Int)<0)),.int .i64 i,.slice a B.length c,.int .i64 B.length,.bool false,.bool (decide ((i:Int)<0)),.slice a B.length c,.int .i64 i,.slice a1 (B.length-i) c1,.func (.func 332) #[] #[.pointer (some ⟨w.heap.size+1+1+1,0,none⟩)],.int .i64 (x.1:Int),.int .u8 x.2,undef,undef,undef,undef,undef,undef,undef,undef,undef,undef,undef,undef,undef,undef,undef,undef,undef,undef,undef,undef,undef,undef,undef,undef,undef,undef],defers:=[]}) ?assign ?body ?done ?stop
 case b6=>
  intro W l o o' hl2 ho hc _;refine⟨belowK_b (w:=W0) hA.size W l o o' hl2 ho hc ‹_›,fun o2 h2 h3=>?_⟩;have hne:w.heap.size+1+1+1≠l:=fun e=>by rw[e,ho]at h2;cases h2;rw[hc]at h3;cases h3
  exact(World.putObj_heap_other hne).trans h2
 case b9=>
  refine⟨⟨0,0,⟨rfl,fun r=>rfl⟩,?_,?_,?_⟩,hA.below (Nat.le_refl _) (by simp)⟩
  ·rw[<-hW0];exact((((ai.refl [] (w.alloc (.cells #[.int .u64 0] 51))).alloc _).alloc _).alloc _).heap (heap_alloc_new w _) (by simp)
  ·rw[<-hW0];exact(((ai.refl [] ((w.alloc (.cells #[.int .u64 0] 51)).alloc (.cells #[.int .i64 0] 3))).alloc _).alloc _).heap (heap_alloc2_new w _ _) (by simp)
  ·rw[<-hW0]
   have:=heap_alloc_new ((w.alloc (.cells #[.int .u64 0] 51)).alloc (.cells #[.int .i64 0] 3)) (.cells #[.bool false] 4);exact((ai.refl [] (((w.alloc (.cells #[.int .u64 0] 51)).alloc (.cells #[.int .i64 0] 3)).alloc (.cells #[.bool false] 4))).alloc _).heap (by simpa using this) (by simp)
 case assign=>
  intro l x W K hK
  gi_wp2
  exact hK
 case body=>
  rintro l pre x W ⟨⟨x0,n,⟨e1,e2⟩,k1,k2,k3⟩,hB⟩ hlt;obtain⟨xs,xc⟩:=x;have v0:=cell_of_row W w.heap.size 0 _ _ _ k1;have v1:=cell_of_row W (w.heap.size+1) 0 _ _ _ k2;have v2:=cell_of_row W (w.heap.size+1+1) 0 _ _ _ k3;have z0:=frozen_of_row W w.heap.size 0 _ _ k1;have z1:=frozen_of_row W (w.heap.size+1) 0 _ _ k2;have z2:=frozen_of_row W (w.heap.size+1+1) 0 _ _ k3;have ah5:n<10:=by omega
  have hwn:IntKind.wrap .i64 ((n:Int)+1)=(n:Int)+1:=by rw[IntKind.wrap_i64];omega
  have hN:=af (Ey (w:=w) (y:=(n:Int)+1) k1 k2 k3 hB);have hV:=af fun y=>Ez (w:=w) (y:=(n:Int)+1) (x:=y) k1 k2 k3 hB
  have hD:=af fun y=>Qu (w:=w) (y:=(n:Int)+1) (x:=y) k1 k2 k3 hB
  have hlen:(pre++[(xs,xc)]).length=n+1:=by rw[List.length_append,<-e1];rfl
  change Hid _ at e1;replace hlen:=af hlen;have e3:=af fun r=>e2 ((xs,xc)::r)
  clear e2 hlt hB k1 k2 k3;by_cases hx:n+1=10/\1<xc
  ·obtain⟨h9,hxc⟩:=hx
   obtain rfl:n=9:=by omega
   replace e3:=af fun r=>(e3.out r).trans (Qv xs xc r x0 hxc)
   gi_wp2
   refine⟨hN.out.1,⟨rfl,x0,10,false,fun r=>?_,hN.out.2.1⟩,hN.out.2.2⟩;rw[List.append_assoc];exact e3.out r
  ·by_cases hc:xc<128
   ·replace e3:=af fun r=>(e3.out r).trans (Qw xs xc r x0 n hx hc)
    by_cases h9:n=9
    ·have hxc:xc<=1:=by omega
     subst h9
     gi_wp2
     gi_region
     all_goals
      gi_wp2
      refine⟨(hD.out _).1,⟨rfl,_,10,true,fun r=>?_,(hD.out _).2.1⟩,(hD.out _).2.2⟩;rw[List.append_assoc];exact e3.out r
    ·have h10: ¬((n:Int)+1=10):=by omega
     gi_wp2
     gi_region
     all_goals
      gi_wp2
      refine⟨(hD.out _).1,⟨rfl,_,n+1,true,fun r=>?_,(hD.out _).2.1⟩,(hD.out _).2.2⟩;rw[List.append_assoc];exact e3.out r
   ·replace e3:=af fun r=>(e3.out r).trans (Qx xs xc r x0 n hx hc)
    have h10: ¬((n:Int)+1=10):=by omega
    gi_wp2
    gi_region
    all_goals
     gi_wp2
     refine⟨(hV.out _).1,(hV.out _).2.1,⟨_,n+1,⟨hlen.out.symm,fun r=>?_⟩,(hV.out _).2.2.1⟩,(hV.out _).2.2.2⟩;rw[List.append_assoc];exact e3.out r
 case done=>
  rintro D ys W hD rfl ⟨⟨x,n,⟨e1,e2⟩,k1,k2,k3⟩,hBW⟩ hK;have hno:=af (KD hIB (by simpa[yc]using e2 []));have v1:=cell_of_row W (w.heap.size+1) 0 _ _ _ k2;have v2:=cell_of_row W (w.heap.size+1+1) 0 _ _ _ k3;have hO:=af (ai.of_below (hBW.trans (belowK_b (w:=w) (Nat.le_refl _) W D _ (.deferred none) (by omega) hK rfl rfl)) (Nat.le_refl _));clear e1 e2 k1 k2 k3;by_cases h10:n=10
  ·subst h10
   go_wp2_with fail
   rw[Exit.noGoto_ret];refine⟨by simp,.inl ⟨_,_,rfl,run_takeDeferred hK,?_⟩⟩;refine⟨_,results_tmp3 rfl _ _ _,?_⟩;exact oI.no hno.out (by decide) hO.out
  ·have afj: ¬((n:Int)=10):=by omega
   go_wp2_with fail
   rw[Exit.noGoto_ret];refine⟨by simp,.inl ⟨_,_,rfl,run_takeDeferred hK,?_⟩⟩;refine⟨_,results_tmp3 rfl _ _ _,?_⟩;exact oI.no hno.out (by decide) hO.out
 case stop=>
  rintro D cd pre W hD ⟨k,rfl⟩ ⟨⟨rfl,x,n,d,e2,k1,k2,k3⟩,hBW⟩ hK;have he:=e2 ((qL (B.drop i)).drop k);rw[List.take_append_drop]at he;have v0:=cell_of_row W w.heap.size 0 _ _ _ k1;have v1:=cell_of_row W (w.heap.size+1) 0 _ _ _ k2;have v2:=cell_of_row W (w.heap.size+1+1) 0 _ _ _ k3;have hO:=af (ai.of_below (hBW.trans (belowK_b (w:=w) (Nat.le_refl _) W D _ (.deferred none) (by omega) hK rfl rfl)) (Nat.le_refl _));clear e2 k1 k2 k3;refine wpIn_wide.2 ?_;cases d with
  |true=>
   have Gh:=VE hIB he;obtain⟨_,hj,_⟩:=kU hIB hi Gh;have hw:IntKind.wrap .i64 ((i:Int)+n)=(i:Int)+n:=by rw[IntKind.wrap_i64];omega
   change Hid _ at Gh;have hKd:W.drew.heap[D]?=some (.deferred (some [])):=hK;have sW:=af (ai.of_below ((show Below w.heap.size w W.drew from⟨hBW.os,hBW.tape,hBW.output,hBW.size,hBW.block⟩).trans (belowK_b (w:=w) (Nat.le_refl _) W.drew D _ (.deferred none) (by omega) hKd rfl rfl)) (Nat.le_refl _));clear he hj;go_wp2_with fail
   go_region
   all_goals
    go_wp2_with fail
    rw[Exit.noGoto_ret];refine⟨by simp,.inl ⟨_,_,rfl,run_takeDeferred hKd,?_⟩⟩;refine⟨_,results_tmp3 rfl _ _ _,?_⟩;exact oI.yes Gh.out sW.out
  |false=>
   have hno:=af (KD hIB he);clear he;by_cases h10:n=10
   ·subst h10
    go_wp2_with fail
    rw[Exit.noGoto_ret];refine⟨by simp,.inl ⟨_,_,rfl,run_takeDeferred hK,?_⟩⟩;refine⟨_,results_tmp3 rfl _ _ _,?_⟩;exact oI.no hno.out (by decide) hO.out
   ·have afj: ¬((n:Int)=10):=by omega
    go_wp2_with fail
    rw[Exit.noGoto_ret];refine⟨by simp,.inl ⟨_,_,rfl,run_takeDeferred hK,?_⟩⟩;refine⟨_,results_tmp3 rfl _ _ _,?_⟩;exact oI.no hno.out (by decide) hO.out
end Go.Proofs.YtedcakchekaemaaGreatDoor
namespace Go.Proofs.YtedcakchekaemaaGreatDoor
variable [Kd]
theorem abP{B:List Int}(hB:pE B)(hl:B.length<=4): ∀k,k<=B.length->qN .u32 32 B k=mW (B.take k)
 |0,_=>by simp[qN,mW]
 |k+1,hk=>by
  have hg:B.getD k 0=B[k]'(by omega):=by simp[List.getD,List.getElem?_eq_getElem (show k<B.length by omega)]
  have ht:B.take (k+1)=B.take k++[B.getD k 0]:=by rw[List.take_succ_eq_append_getElem (by omega),hg]
  obtain⟨c0,c1⟩:=hB (B.getD k 0) (by rw[hg];exact List.getElem_mem _);obtain⟨r0,r1⟩:=jT (B.take k) (hB.take k);have hlen:(B.take k).length=k:=by rw[List.length_take];omega
  rw[hlen]at r1;obtain⟨s0,s1⟩:=jT (B.take (k+1)) (hB.take _);have hlen1:(B.take (k+1)).length=k+1:=by rw[List.length_take];omega
  rw[hlen1]at s1;have hx:=wO (B.take k) (B.getD k 0);rw[<-ht,hlen]at hx;have hp:(0:Int)<2^(8*k):=Int.pow_pos (by omega);have UA:0<=B.getD k 0*2^(8*k):=Int.mul_nonneg c0 (Int.le_of_lt hp);have hle:(2:Int)^(8*(k+1))<=2^32:=xZ (by omega);unfold qN;rw[abP hB hl k (by omega),hx,Nat.min_eq_left (by omega)];have e1:IntKind.u32.wrap (B.getD k 0)=B.getD k 0:=by rw[IntKind.wrap_u32];omega
  rw[e1];have e2:IntKind.u32.wrap (B.getD k 0*2^(8*k))=B.getD k 0*2^(8*k):=by rw[IntKind.wrap_u32];omega
  rw[e2];exact Qp r0 r1 c0 (by omega)
theorem abQ{B:List Int}(hB:pE B)(hl:B.length<=8): ∀k,k<=B.length->qN .u64 64 B k=mW (B.take k)
 |0,_=>by simp[qN,mW]
 |k+1,hk=>by
  have hg:B.getD k 0=B[k]'(by omega):=by simp[List.getD,List.getElem?_eq_getElem (show k<B.length by omega)]
  have ht:B.take (k+1)=B.take k++[B.getD k 0]:=by rw[List.take_succ_eq_append_getElem (by omega),hg]
  obtain⟨c0,c1⟩:=hB (B.getD k 0) (by rw[hg];exact List.getElem_mem _);obtain⟨r0,r1⟩:=jT (B.take k) (hB.take k);have hlen:(B.take k).length=k:=by rw[List.length_take];omega
  rw[hlen]at r1;obtain⟨s0,s1⟩:=jT (B.take (k+1)) (hB.take _);have hlen1:(B.take (k+1)).length=k+1:=by rw[List.length_take];omega
  rw[hlen1]at s1;have hx:=wO (B.take k) (B.getD k 0);rw[<-ht,hlen]at hx;have hp:(0:Int)<2^(8*k):=Int.pow_pos (by omega);have UA:0<=B.getD k 0*2^(8*k):=Int.mul_nonneg c0 (Int.le_of_lt hp);have hle:(2:Int)^(8*(k+1))<=2^64:=xZ (by omega);unfold qN;rw[abQ hB hl k (by omega),hx,Nat.min_eq_left (by omega)];have e1:IntKind.u64.wrap (B.getD k 0)=B.getD k 0:=by rw[IntKind.wrap_u64];omega
  rw[e1];have e2:IntKind.u64.wrap (B.getD k 0*2^(8*k))=B.getD k 0*2^(8*k):=by rw[IntKind.wrap_u64];omega
  rw[e2];exact Ev r0 r1 c0 (by omega)
end Go.Proofs.YtedcakchekaemaaGreatDoor
namespace Go.Proofs.YtedcakchekaemaaGreatDoor
open Go.RowKit
variable [Kd]
theorem zk{W:World}{v:Value}{L:List Int}(hR:aG bL W v L):(convert 23 9 v).run Tryz.prog W=.ok (.string (strOfNums L)) W:=by
 rcases hR with⟨rfl,rfl⟩|⟨g,o,cap,rfl,hx⟩
 ·exact run_convert_bytes_nil W _ _ Tryz.underlying23 Tryz.underlying5 0 0 _ Tryz.underlying9
 ·refine run_convert_bytes_arg W _ _ Tryz.underlying23 Tryz.underlying5 g o L.length cap L rfl (fun i hi=>?_) _ Tryz.underlying9
  refine hx i _ ?_;have e:=fM wL L i 0 L[i] (List.getElem?_eq_getElem hi) (by omega);simp only[Nat.mul_one,Nat.add_zero]at e;rw[e];simp[bL,List.getD,List.getElem?_eq_getElem hi]
theorem oJ(s:ByteArray)(w:World): ∃w1 c,(convert 9 23 (.string s)).run Tryz.prog w=.ok (.slice (some ⟨w.heap.size,0,none⟩) s.size c) w1/\
  aG bL w1 (.slice (some ⟨w.heap.size,0,none⟩) s.size c) (ak s)/\eZ (.slice (some ⟨w.heap.size,0,none⟩) s.size c)/\ai [] w w1/\w1.heap.size=w.heap.size+1:=by
 refine⟨_,_,Lib.run_convert_string_bytes w _ _ _ s Tryz.underlying9 Tryz.underlying23 Tryz.underlying5,.inr ⟨w.heap.size,0,_,by rw[dX],fun j u hu=>?_⟩,?_,?_,Lib.bytesWorld_size _ _ _⟩
 ·have hj:j<s.size:=by
   have:=(List.getElem?_eq_some_iff.1 hu).1;rw[bq wL,dX]at this;omega
  rw[Nat.zero_add,Lib.bytesWorld_cell w _ s j hj,<-hu];have hjb:j<(ak s).length:=by rw[dX];exact hj
  have e:=fM wL (ak s) j 0 _ (List.getElem?_eq_getElem hjb) (by omega);simp only[Nat.mul_one,Nat.add_zero]at e;rw[e];have hj2:j<s.data.toList.length:=by simpa using hj
  simp[bL,ak,List.getD,List.getElem?_eq_getElem hj2]
 ·intro a n c e
  cases e;exact grownCap_ge _ _ _ _
 ·have hf: ∀(W:World) (a:Addr) (k:Nat),(W.freeze a k).os=W.os/\(W.freeze a k).tape=W.tape/\(W.freeze a k).output=W.output:=fun W a k=>by unfold World.freeze;split<;>exact⟨rfl,rfl,rfl⟩
  refine⟨(hf _ _ _).1,(hf _ _ _).2.1,(hf _ _ _).2.2,by rw[Lib.bytesWorld_size];omega,fun k hk _=>Lib.bytesWorld_at_old w _ s k hk⟩
abbrev fq(v:Value)(i:Nat)(op out:Value):Array Value:=#[v,.int .i64 i,op,out]
theorem QA{w:World}{r:Nat}{v:Value}{i:Nat}{op out:Value}(h:w.heap[r]?=some (.cells (fq v i op out) 339 (0,0))):
  (w.cell? ⟨r,0,none⟩=some v/\w.cell? ⟨r,1,none⟩=some (.int .i64 i)/\w.cell? ⟨r,2,none⟩=some op/\w.cell? ⟨r,3,none⟩=some out)/\ ∀j,w.frozen? ⟨r,j,none⟩=false:=
 ⟨⟨by rw[cell_of_row _ _ _ _ _ _ h];rfl,by rw[cell_of_row _ _ _ _ _ _ h];rfl,by rw[cell_of_row _ _ _ _ _ _ h];rfl,by rw[cell_of_row _ _ _ _ _ _ h];rfl⟩,fun j=>frozen_of_row _ _ j _ _ h⟩
theorem Cq{w:World}{r:Nat}{v:Value}{i:Nat}{op out:Value}(j:Nat)(h:w.heap[r]?=some (.cells (fq v i op out) 339 (0,0))):
  (w.setCell ⟨r,1,none⟩ (.int .i64 j)).heap[r]?=some (.cells (fq v j op out) 339 (0,0))/\ai [r] w (w.setCell ⟨r,1,none⟩ (.int .i64 j)):=
 ⟨by have:=heap_setCell_same _ r 1 _ _ (.int .i64 (j:Int)) h;simpa[fq]using this,(ai.refl _ _).setCell (.inl (by simp)) _⟩
def vH(B:List Int)(r:Nat)(v:Value)(i:Nat)(op out:Value)(w:World)(e:Ending)(w':World):Prop:=
 match oH B i with
 |some (x,j)=>e=.returned (.tuple #[.int .u64 x,.int .i64 0])/\w'.heap[r]?=some (.cells (fq v j op out) 339 (0,0))/\ai [r] w w'
 |none=>(∃ec:Int,ec≠0/\e=.returned (.tuple #[.int .u64 0,.int .i64 ec]))/\ai [] w w'
theorem uJ(r:Nat)(v op out:Value)(B:List Int)(i:Nat)(w:World)(h:w.heap[r]?=some (.cells (fq v i op out) 339 (0,0)))(hR:aG bL w v B)(hc:eZ v)(hB:pE B)(hl:B.length<=4096)(hi:i<=B.length):
  Calls Tryz.prog 253 #[.pointer (some ⟨r,0,none⟩)] w (vH B r v i op out w):=by
 obtain⟨⟨c0,c1,c2,c3⟩,_⟩:=QA h;have hd:w.drew.heap[r]?=_:=h;have cG:=VF v B i w.drew (hR.nil' ((ai.refl [] w).drew)) hc (by omega) hi hB;have UB:Hid (∀W,ai [] w.drew W->W.cell? ⟨r,0,none⟩=some v/\W.cell? ⟨r,1,none⟩=some (.int .i64 i)):=af fun W ho=>by
  obtain⟨⟨q0,q1,_,_⟩,_⟩:=QA (ho.heap hd (by simp));exact⟨q0,q1⟩
 have kW:=UB.out w.drew (ai.refl _ _);unfold oI at cG;unfold vH;cases hv:oH B i with
 |none=>
  rw[hv]at cG;replace cG:=af cG;clear hv hR hc hB h hd;go_enter Tryz.func253,Tryz.ntmps253
  go_wp2_with fail
  go_region_held3(fun W=>W.cell? ⟨r,0,none⟩=some v/\W.cell? ⟨r,1,none⟩=some (.int .i64 i))
   (first|with_reducible exact kA|with_reducible exact kW|go_keep)
   ((first|(go_at_call 289;(with_reducible refine cG.out.mono ?_);rintro e w1 ⟨⟨ec,aD,rfl⟩,hO⟩;have kA:=UB.out _ hO)))
  have h1:(ec !=0)=true:=by simpa using aD
  change Hid _ at aD hO;go_wp2_with fail
  go_ret2
  exact⟨⟨ec,aD.out,rfl⟩,(ai.refl [] w).drew.trans hO.out⟩
 |some p=>
  obtain⟨x,j⟩:=p;rw[hv]at cG;obtain⟨_,hj,hx0,hx1⟩:=kU hB hi hv;change Hid _ at hd;replace cG:=af cG;clear hv hR hc hB h;go_enter Tryz.func253,Tryz.ntmps253
  go_wp2_with fail
  go_region_held3(fun W=>W.cell? ⟨r,0,none⟩=some v/\W.cell? ⟨r,1,none⟩=some (.int .i64 i))
   (first|with_reducible exact kA|with_reducible exact kW|go_keep)
   ((first|(go_at_call 289;(with_reducible refine cG.out.mono ?_);rintro e w1 ⟨rfl,hO⟩;have kA:=UB.out _ hO)))
  have h1:=hO.heap hd.out (by simp);obtain⟨⟨d0,d1,d2,d3⟩,hf⟩:=QA h1;have f1:=hf 1;obtain⟨h2,hO2⟩:=Cq j h1;have hO3:=af (((ai.refl [] w).drew.trans hO).nil.trans hO2);change Hid _ at h2;clear h1 hO2 hf;go_wp2_with fail
  go_ret2
  exact⟨rfl,h2.out,hO3.out⟩
def QB(B:List Int)(i:Nat):Option (ByteArray×Nat):=(oH B i).bind fun p=>if(B.length:Int)-p.2<p.1 then none else some (strOfNums ((B.drop p.2).take p.1.toNat),p.2+p.1.toNat)
def Cr(B:List Int)(r:Nat)(v:Value)(i:Nat)(op out:Value)(w:World)(e:Ending)(w':World):Prop:=
 match QB B i with
 |some (s,j)=>e=.returned (.tuple #[.string s,.int .i64 0])/\w'.heap[r]?=some (.cells (fq v j op out) 339 (0,0))/\ai [r] w w'
 |none=>(∃ec:Int,ec≠0/\e=.returned (.tuple #[.string ⟨#[]⟩,.int .i64 ec]))/\ai [r] w w'
theorem Mi(r:Nat)(v op out:Value)(B:List Int)(i:Nat)(w:World)(h:w.heap[r]?=some (.cells (fq v i op out) 339 (0,0)))(hR:aG bL w v B)(hrb: ∀b,v.ownBlock=some b->b≠r)(hc:eZ v)(hB:pE B)(hl:B.length<=4096)(hi:i<=B.length):
  Calls Tryz.prog 290 #[.pointer (some ⟨r,0,none⟩)] w (Cr B r v i op out w):=by
 have cN:=uJ r v op out B i w h hR hc hB hl hi;unfold vH at cN;unfold Cr QB;cases hv:oH B i with
 |none=>
  rw[hv]at cN;simp only[Option.bind_none];replace cN:=af cN;clear hv hR hc hB h hrb;go_enter Tryz.func290,Tryz.ntmps290
  go_wp2_with fail
  refine cN.out.mono ?_;rintro e w1 ⟨⟨ec,aD,rfl⟩,hO⟩;have h1:(ec !=0)=true:=by simpa using aD
  change Hid _ at aD;replace hO:=af hO;go_wp2_with fail
  go_ret2
  exact⟨⟨ec,aD.out,rfl⟩,hO.out.nil⟩
 |some p=>
  obtain⟨x,j⟩:=p;rw[hv]at cN;simp only[Option.bind_some];obtain⟨_,hj,hx0,hx1⟩:=kU hB hi hv;have hw1:IntKind.wrap .i64 ((B.length:Int)-j)=(B.length:Int)-j:=by rw[IntKind.wrap_i64];omega
  have hw2:IntKind.wrap .u64 ((B.length:Int)-j)=(B.length:Int)-j:=by rw[IntKind.wrap_u64];omega
  obtain⟨va,vc,hvf⟩:=hR.form;by_cases hsh:(B.length:Int)-j<x
  ·rw[if_pos hsh]
   replace cN:=af cN;clear hv hR hc hB h hrb;subst hvf;generalize B.length=N at*;go_enter Tryz.func290,Tryz.ntmps290
   go_wp2_with fail
   refine cN.out.mono ?_;rintro e w1 ⟨rfl,h1,hO⟩;obtain⟨⟨d0,d1,d2,d3⟩,hf⟩:=QA h1;replace hO:=af hO;clear h1 hf;go_wp2_with fail
   go_quiet(fail)
   go_wp2_with fail
   go_ret2
   exact⟨⟨2,by decide,rfl⟩,hO.out.drewN _⟩
  ·rw[if_neg hsh]
   have hxn:x=(x.toNat:Int):=by omega
   generalize x.toNat=k at*;subst hxn;have hw3:IntKind.wrap .i64 ((k:Nat):Int)=(k:Int):=by rw[IntKind.wrap_i64];omega
   have hw4:IntKind.wrap .i64 ((j:Int)+k)=(j:Int)+k:=by rw[IntKind.wrap_i64];omega
   obtain⟨v1,hs,gU,hb1,_⟩:=hR.mid Qk hc (i:=j) (j:=j+k) (by omega) (by omega);rw[show j+k-j=k by omega]at gU;have hs': ∀W,(Instr.sliceAt 23 v (some (.int .i64 (j:Int))) (some (.int .i64 ((j:Int)+k))) none).run Tryz.prog W=.ok v1 W:=fun W=>by have:=hs W;rwa[show((j+k:Nat):Int)=(j:Int)+k by omega]at this
   have hcv:=af fun W (ho:ai [r] w W)=>zk (gU.own ho (fun b hb=>by simpa using hrb b (hb1 b hb)))
   replace cN:=af cN;clear hv hR hc hB h hrb hs gU hb1;subst hvf;generalize B.length=N at*;go_enter Tryz.func290,Tryz.ntmps290
   go_wp2_with fail
   refine cN.out.mono ?_;rintro e w1 ⟨rfl,h1,hO⟩;obtain⟨⟨d0,d1,d2,d3⟩,hf⟩:=QA h1;have f1:=hf 1;change Hid _ at h1;replace hO:=af hO;clear hf;go_wp2_with fail
   go_quiet(fail)
   have hO3:=af fun q' q=>((hO.out.drewN q').setCell (p:=⟨r,1,none⟩) (.inl (by simp)) (.int .i64 ((j:Int)+k))).drewN q
   have h4:=af fun q'=>(Cq (w:=w1.drewN q') (j+k) h1.out).1
   have hcq:=fun q' q=>hcv.out _ (hO3.out q' q)
   rw[show((j+k:Nat):Int)=(j:Int)+k by omega]at h4;go_wp2_with fail
   go_quiet(fail)
   go_wp2_with fail
   go_ret2
   exact⟨rfl,h4.out _,hO3.out _ _⟩
theorem Mj{B:List Int}(hB:pE B){i:Nat}(h:i+8<=B.length):kV .u64 64 8 B i=(mW ((B.drop i).take 8),(i:Int)+8,0):=by
 have hc:lT B.length i (8:Nat)=0:=by unfold lT;rw[if_neg (by omega),if_neg (by omega)]
 have hl:((B.drop i).take 8).length=8:=by rw[List.length_take,List.length_drop];omega
 have e:=abQ ((hB.drop i).take 8) (by omega) 8 (by omega);unfold kV;rw[if_pos hc];simp only[Int.toNat_natCast];rw[e,List.take_of_length_le (by omega)];rfl
theorem Ml{B:List Int}(hB:pE B){i:Nat}(h:i+4<=B.length):kV .u32 32 4 B i=(mW ((B.drop i).take 4),(i:Int)+4,0):=by
 have hc:lT B.length i (4:Nat)=0:=by unfold lT;rw[if_neg (by omega),if_neg (by omega)]
 have hl:((B.drop i).take 4).length=4:=by rw[List.length_take,List.length_drop];omega
 have e:=abP ((hB.drop i).take 4) (by omega) 4 (by omega);unfold kV;rw[if_pos hc];simp only[Int.toNat_natCast];rw[e,List.take_of_length_le (by omega)];rfl
theorem QC{B:List Int}{i:Nat}(h: ¬i+8<=B.length)(hi:i<=B.length):kV .u64 64 8 B i=(0,0,2):=by
 have hc:lT B.length i (8:Nat)=2:=by unfold lT;rw[if_neg (by omega),if_pos (by omega)]
 unfold kV;rw[hc];rfl
theorem QD{B:List Int}{i:Nat}(h: ¬i+4<=B.length)(hi:i<=B.length):kV .u32 32 4 B i=(0,0,2):=by
 have hc:lT B.length i (4:Nat)=2:=by unfold lT;rw[if_neg (by omega),if_pos (by omega)]
 unfold kV;rw[hc];rfl
def oK(n:Nat)(B:List Int)(r:Nat)(v:Value)(i:Nat)(op out:Value)(w:World)(e:Ending)(w':World):Prop:=
 match wM n B i with
 |some (x,j)=>e=.returned (.tuple #[.int .u64 x,.int .i64 0])/\w'.heap[r]?=some (.cells (fq v j op out) 339 (0,0))/\ai [r] w w'
 |none=>(∃ec:Int,ec≠0/\e=.returned (.tuple #[.int .u64 0,.int .i64 ec]))/\ai [] w w'
theorem Mq(r:Nat)(v op out:Value)(B:List Int)(i:Nat)(w:World)(h:w.heap[r]?=some (.cells (fq v i op out) 339 (0,0)))(hR:aG bL w v B)(hc:eZ v)(hB:pE B)(hl:B.length<=4096)(hi:i<=B.length):
  Calls Tryz.prog 291 #[.pointer (some ⟨r,0,none⟩),.int .i64 1] w (oK 8 B r v i op out w):=by
 obtain⟨⟨c0,c1,c2,c3⟩,hf⟩:=QA h;have f1:=hf 1;have Dm:=fun q=>Calls.quiet_of_same ((Qz v B i (w.drewN q) (hR.nil' ((ai.refl [] w).drewN q)) hc (by omega) (by omega)).mono (fun _ _ h=>⟨h.1,h.2.symm⟩))
 have h4:=af fun q=>(Cq (w:=w.drewN q) (i+8) h).1
 have hO:=af fun q=>((ai.refl [r] w).drewN q).setCell (p:=⟨r,1,none⟩) (.inl (by simp)) (.int .i64 ((i:Int)+8))
 rw[show((i+8:Nat):Int)=(i:Int)+8 by omega]at h4;unfold oK wM;by_cases hx:i+8<=B.length
 ·rw[if_pos hx]
  simp only[Mj hB hx]at Dm;obtain⟨R,hRR⟩: ∃R,mW ((B.drop i).take 8)=R:=⟨_,rfl⟩;simp only[hRR]at Dm;rw[hRR];change Hid _ at Dm;clear hR hc hB h hf hRR hx;go_enter Tryz.func291,Tryz.ntmps291
  go_wp2_with fail
  go_quiet((go_at_call 318;exact Dm.out _))
  go_wp2_with fail
  go_ret2
  exact⟨rfl,h4.out _,hO.out _⟩
 ·rw[if_neg hx]
  simp only[QC hx hi]at Dm;change Hid _ at Dm;clear hR hc hB h hf hx;go_enter Tryz.func291,Tryz.ntmps291
  go_wp2_with fail
  go_quiet((go_at_call 318;exact Dm.out _))
  go_wp2_with fail
  go_ret2
  exact⟨⟨2,by decide,rfl⟩,(ai.refl [] w).drewN _⟩
theorem Mr(r:Nat)(v op out:Value)(B:List Int)(i:Nat)(w:World)(h:w.heap[r]?=some (.cells (fq v i op out) 339 (0,0)))(hR:aG bL w v B)(hc:eZ v)(hB:pE B)(hl:B.length<=4096)(hi:i<=B.length):
  Calls Tryz.prog 291 #[.pointer (some ⟨r,0,none⟩),.int .i64 5] w (oK 4 B r v i op out w):=by
 obtain⟨⟨c0,c1,c2,c3⟩,hf⟩:=QA h;have f1:=hf 1;have Dm:=fun q=>Calls.quiet_of_same ((Qy v B i (w.drewN q) (hR.nil' ((ai.refl [] w).drewN q)) hc (by omega) (by omega)).mono (fun _ _ h=>⟨h.1,h.2.symm⟩))
 have h4:=af fun q=>(Cq (w:=w.drewN q) (i+4) h).1
 have hO:=af fun q=>((ai.refl [r] w).drewN q).setCell (p:=⟨r,1,none⟩) (.inl (by simp)) (.int .i64 ((i:Int)+4))
 rw[show((i+4:Nat):Int)=(i:Int)+4 by omega]at h4;unfold oK wM;by_cases hx:i+4<=B.length
 ·rw[if_pos hx]
  simp only[Ml hB hx]at Dm;have hb:=jT ((B.drop i).take 4) ((hB.drop i).take 4);rw[show((B.drop i).take 4).length=4 by rw[List.length_take,List.length_drop];omega]at hb;obtain⟨R,hRR⟩: ∃R,mW ((B.drop i).take 4)=R:=⟨_,rfl⟩;simp only[hRR]at Dm;rw[hRR]at hb⊢;have hw:IntKind.wrap .u64 R=R:=by
   have:(2:Int)^(8*4)=4294967296:=by decide
   rw[IntKind.wrap_u64];omega
  change Hid _ at Dm;clear hR hc hB h hf hRR hx hb;go_enter Tryz.func291,Tryz.ntmps291
  go_wp2_with fail
  go_quiet((go_at_call 319;exact Dm.out _))
  go_wp2_with fail
  go_ret2
  exact⟨rfl,h4.out _,hO.out _⟩
 ·rw[if_neg hx]
  simp only[QD hx hi]at Dm;change Hid _ at Dm;clear hR hc hB h hf hx;go_enter Tryz.func291,Tryz.ntmps291
  go_wp2_with fail
  go_quiet((go_at_call 319;exact Dm.out _))
  go_wp2_with fail
  go_ret2
  exact⟨⟨2,by decide,rfl⟩,(ai.refl [] w).drewN _⟩
end Go.Proofs.YtedcakchekaemaaGreatDoor
