import Derived.Test.YtedcakchekaemaaGreatDoorMn02
import Derived.Test.YtedcakchekaemaaGreatDoorMn03
import Derived.RangeFuncNested
import Derived.Shelf.Abstract
import Derived.OwnWalkIn
import Derived.TacticsInMore
import Derived.LoopNIn
import Derived.Sort.LoopGhostIn
import Derived.Lib.ConvBytes
import Derived.StillTailTactics
import Derived.Deep.RegionHeld3
set_option maxRecDepth 100000
set_option maxHeartbeats 16000000
set_option linter.all false
namespace Go.Proofs.YtedcakchekaemaaGreatDoor
open Go.RowKit Go.Shelf
variable [Kd]
attribute [local go_sem] Oper.semAt_some
def o9(B:List Int):List (Nat×Int):=(List.range (min B.length 10)).map fun(i:Nat)=>(7*i,B.getD i 0)
theorem xD(B:List Int):(o9 B).length=min B.length 10:=by simp[o9]
theorem Kh{B:List Int}{k:Nat}(hk:k<min B.length 10):(o9 B).take (k+1)=(o9 B).take k++[(7*k,B.getD k 0)]:=by
 rw[List.take_succ_eq_append_getElem (by rw[xD];exact hk)];simp[o9]
theorem Od(n:Nat)(hn:1<=n)(l Bx:Nat)(Kp:World->World->Prop)(va:Option Addr)(c:Nat)(B:List Int)(J Jx:List (Nat×Int)->World->Prop)
  (hY: ∀pre x W,J pre W->pre.length<min B.length 10->YieldAt Fence.wide (n-1) Tryz.prog l #[.int .i64 (x.1:Int),.int .u8 x.2] W fun e W'=>
   (e=.returned (.bool true)/\J (pre++[x]) W'/\Kp W W')\/(e=.returned (.bool false)/\Jx (pre++[x]) W'))
  (W:World)(hc:W.cell? ⟨Bx,0,none⟩=some (.slice va B.length c))(hKr:Kp W W)(hKt: ∀A B C,Kp A B->Kp B C->Kp A C)(hR: ∀W',Kp W W'->W'.cell? ⟨Bx,0,none⟩=some (.slice va B.length c)/\aA bL W' (.slice va B.length c) B)(hl:B.length<=140737488351232)(h0:J [] W):
  CallsIn Fence.wide n Tryz.prog 332 #[.func (.yield l) #[] #[],.pointer (some ⟨Bx,0,none⟩)] W fun e W'=>(∃v,e=.returned v)/\
   (J (o9 B) W'\/(∃pre,(∃k,pre=(o9 B).take k)/\Jx pre W')):=by
 refine callsIn_of_wp Tryz.func332 rfl trivial ?_ rfl;simp only[Tryz.ntmps332,List.size_toArray,List.length_cons,List.length_nil,Nat.reduceAdd,Nat.reduceSub,Array.replicate_succ,Array.replicate_zero,List.push_toArray,List.append_toArray,List.nil_append,List.cons_append];have hR':Hid (∀W',Kp W W'->W'.cell? ⟨Bx,0,none⟩=some (.slice va B.length c)/\ ∀k,k<B.length-> ∃bb oo,va=some ⟨bb,oo,none⟩/\W'.cell? ⟨bb,oo+k,none⟩=some (.int .u8 (B.getD k 0))):=af fun W' hb=>by
  refine⟨(hR W' hb).1,fun k hk=>?_⟩;obtain⟨q,hq⟩: ∃q,B[k]?=some q:=⟨_,List.getElem?_eq_getElem hk⟩;obtain⟨bb,oo,hab,hx⟩:=(hR W' hb).2.at_ uN (by omega);have e:=hx k q 0 _ hq rfl;simp only[Nat.mul_one,Nat.add_zero]at e;exact⟨bb,oo,hab,by rw[e];simp[List.getD,hq]⟩
 clear hR
 gi_wp2
 all_goals
  clear hc
  gi_loopg [3,7] (min B.length 10) (fun g s3 s7 wr=> ∃k:Nat,k<=min B.length 10/\g=min B.length 10-k/\s7=.int .i64 k/\Aside (Kp W wr)/\Aside (J ((o9 B).take k) wr))
  case atStart=>exact⟨0,Nat.zero_le _,rfl,rfl,hKr,h0⟩
  case round=>
   obtain⟨k,hk,rfl,rfl,hb,hJ⟩:=hrel;obtain⟨b0,hcell⟩:=hR'.out wr hb.out;by_cases hkm:k<min B.length 10
   ·have hkl:k<B.length:=by omega
    have hk10:(k:Int)<10:=by omega
    obtain⟨bb,oo,rfl,d0⟩:=hcell k hkl;have hYk:=hY ((o9 B).take k) (7*k,B.getD k 0) wr hJ.out (by rw[List.length_take,xD];omega);simp only[show((7*k:Nat):Int)=7*(k:Int)by omega]at hYk;obtain⟨fn,tmps,assign,body,hy,sG⟩:=hYk;have hw:IntKind.wrap .i64 (7*(k:Int))=7*(k:Int):=by rw[IntKind.wrap_i64];omega
    rw[<-Kh hkm]at sG;generalize B.getD k 0=q at*;clear hcell
    gi_wp2
    refine sG.mono ?_;rintro e W3 (⟨rfl,hJ3,hk3⟩|⟨rfl,hJx3⟩)
    ·have hb3:Aside (Kp W W3):=hKt _ _ _ hb.out hk3
     change Hid _ at hJ3;clear hy hk3 b0 d0
     gi_wp2
     gi_roundg (min B.length 10-(k+1))
     case measure=>omega
     case rel=>exact⟨k+1,by omega,rfl,by go_num,hb3,hJ3.out⟩
    ·replace hJx3:=af hJx3
     clear hy b0 d0
     gi_wp2
     refine bodyPost_ret (results_none rfl _ _ _) rfl ?_;exact⟨⟨_,rfl⟩,.inr ⟨_,⟨k+1,rfl⟩,hJx3.out⟩⟩
   ·have hkk:k=(o9 B).length:=by rw[xD];omega
    have hJe:J (o9 B) wr:=by have:=hJ.out;rwa[hkk,List.take_length]at this
    have hkn: ¬(k:Int)<B.length\/ ¬(k:Int)<10:=by omega
    change Hid _ at hJe;clear hcell hkk
    gi_wp2
    go_end0
    exact⟨⟨_,rfl⟩,.inl hJe.out⟩
theorem CV(B:List Int):o9 B=su 0 B:=by
 have key: ∀(l:List Int) (k:Nat),k<=10->su k l=(List.range (min l.length (10-k))).map fun i=>(7*(k+i),l.getD i 0):=by
  intro l;induction l with
  |nil=>intro k _;simp[su]
  |cons c r ih=>
   intro k hk;unfold su;by_cases h:k<10
   ·rw[if_pos h,ih (k+1) (by omega)]
    have:min (c::r).length (10-k)=min r.length (10-(k+1))+1:=by simp only[List.length_cons];omega
    rw[this,List.range_succ_eq_map];simp[List.map_map,Function.comp_def,Nat.add_assoc,Nat.add_comm 1]
   ·rw[if_neg h]
    obtain rfl:k=10:=by omega
    simp
 rw[key B 0 (by omega)];simp[o9]
def rH(n0 Bx:Nat)(W W':World):Prop:=Below n0 W W'/\ ∀o,W.heap[Bx]?=some o->o.isCells=true->W'.heap[Bx]?=some o
theorem rH.refl(n0 Bx:Nat)(W:World):rH n0 Bx W W:=⟨Below.refl _ _,fun _ h _=>h⟩
theorem rH.trans{n0 Bx:Nat}{A B C:World}(h:rH n0 Bx A B)(k:rH n0 Bx B C):rH n0 Bx A C:=⟨h.1.trans k.1,fun o h1 h2=>k.2 o (h.2 o h1 h2) h2⟩
theorem Oe(n:Nat)(hn:1<=n)(n0 Bx:Nat)(va:Option Addr)(c:Nat)(B:List Int)(w:World)(h0:n0<=w.heap.size)(hBx:Bx<w.heap.size)(hc:w.heap[Bx]?=some (.cells #[.slice va B.length c] 23 (0,0)))(hR: ∀W',Below n0 w W'->aA bL W' (.slice va B.length c) B)(hl:B.length<=140737488351232):
  SeqStopsK Fence.wide n Tryz.prog 332 #[.pointer (some ⟨Bx,0,none⟩)] (fun x:Nat×Int=>#[.int .i64 (x.1:Int),.int .u8 x.2]) (rH n0 Bx) (fun ys=>ys=o9 B) (fun pre=> ∃k,pre=(o9 B).take k) (min B.length 10) w:=
 fun l J Jx W hW hJ _ hY hJ0=>by
  have hcW:W.heap[Bx]?=some (.cells #[.slice va B.length c] 23 (0,0)):=(hW.block Bx hBx).trans hc;exact(Od n hn l Bx (rH n0 Bx) va c B J Jx hY W (cell_of_row _ _ 0 _ _ _ hcW) (rH.refl _ _ _) (fun _ _ _ h k=>h.trans k) (fun W' hb=>⟨cell_of_row _ _ 0 _ _ _ (hb.2 _ hcW rfl),hR W' ((hW.mono h0).trans hb.1)⟩) hl hJ0).mono fun e W' ⟨h1,h2⟩=>⟨h1,h2.elim (fun h=>.inl ⟨_,rfl,h⟩) .inr⟩
theorem Og(a:Option Addr)(n c:Nat)(W:World):Calls Tryz.prog 317 #[.slice a n c] W fun e w'=>e=.returned (.func (.func 332) #[] #[.pointer (some ⟨W.heap.size,0,none⟩)])/\w'=W.alloc (.cells #[.slice a n c] 23):=by
 go_enter Tryz.func317,Tryz.ntmps317
 go_wp2_with fail
 go_ret
 exact⟨rfl,rfl⟩
end Go.Proofs.YtedcakchekaemaaGreatDoor
namespace Go.Proofs.YtedcakchekaemaaGreatDoor
open Go.RowKit
def pq(ik:IntKind)(wd:Nat)(B:List Int):Nat->Int
 |0=>0
 |k+1=>Go.bits .or ik (pq ik wd B k) (ik.wrap (ik.wrap (B.getD k 0)*2^min (8*k) wd))
def jY(ik:IntKind)(bw wd:Nat)(B:List Int)(at':Int):Int×Int×Int:=
 if kL B.length at' wd=0 then(pq ik bw ((B.drop at'.toNat).take wd) wd,at'+wd,0)else(0,0,kL B.length at' wd)
theorem CY(v:Value)(B:List Int)(w:World)(h:aA bL w v B)(hl:B.length<=8):
  Calls Tryz.prog 345 #[v] w fun e w'=>e=.returned (.int .u32 (pq .u32 32 B B.length))/\w=w':=by
 obtain⟨a,c,rfl⟩:=h.form;have hc:Hid (∀k,k<B.length-> ∃q,B.getD k 0=q/\ ∃bb oo,a=some ⟨bb,oo,none⟩/\w.cell? ⟨bb,oo+k,none⟩=some (.int .u8 q)):=af fun k hk=>by
  obtain⟨q,hq⟩: ∃q,B[k]?=some q:=⟨_,List.getElem?_eq_getElem hk⟩;obtain⟨bb,oo,hab,hx⟩:=h.at_ uN (by omega);have e:=hx k q 0 _ hq rfl;simp only[Nat.mul_one,Nat.add_zero]at e;exact⟨q,by simp[List.getD,hq],bb,oo,hab,e⟩
 clear h;obtain⟨R,hR⟩: ∃R,pq .u32 32 B B.length=R:=⟨_,rfl⟩;rw[hR];change Hid _ at hR;generalize B.length=n at*;go_enter Tryz.func345,Tryz.ntmps345
 go_wp2_with fail
 go_loopg[3,7] n (fun g s3 s7 wr=> ∃(k:Nat) (x:Int),k<=n/\g=n-k/\s3=.int .u32 x/\s7=.int .i64 k/\wr=w/\Aside (x=pq .u32 32 B k))
 case atStart=>exact⟨0,0,Nat.zero_le _,rfl,rfl,rfl,rfl,rfl⟩
 case round=>
  obtain⟨k,x,hk,rfl,rfl,rfl,rfl,hx⟩:=hrel;by_cases hkn:k<n
  ·obtain⟨q,hq,bb,oo,rfl,c0⟩:=hc.out k hkn
   have hw:IntKind.wrap .i64 (8*(k:Int))=8*(k:Int):=by rw[IntKind.wrap_i64];omega
   have h8:(0:Int)<=8*(k:Int):=by omega
   have hmin:min (8*k) 64=8*k:=Nat.min_eq_left (by omega);change Hid _ at hx hq;go_wp2_with fail
   go_roundg(n-(k+1))
   case measure=>omega
   case rel=>
    refine⟨k+1,_,by omega,rfl,rfl,by go_num,rfl,?_⟩;rw[hx.out,<-hq.out];unfold Aside
    first
     |rfl
     |(show _=Go.bits .or .u32 (pq .u32 32 B k) (IntKind.u32.wrap (IntKind.u32.wrap (B.getD k 0)*2^min (8*k) 32));first|rw[hmin]|simp[IntKind.wrap_u32])
  ·obtain rfl:k=n:=by omega
   have hxR:x=R:=hx.trans hR.out;subst hxR;clear hx;go_wp2_with fail
   go_ret
   exact⟨rfl,rfl⟩
theorem FO(v:Value)(B:List Int)(at':Int)(w:World)(h:aA bL w v B)(hc:eB v)(hl:B.length<=140737488351232)(ha:at'<=140737488351232):
  Calls Tryz.prog 334 #[v,.int .i64 at',.int .i64 4] w fun e w'=>e=.returned (.tuple #[.int .u32 (jY .u32 32 4 B at').1,.int .i64 (jY .u32 32 4 B at').2.1,.int .i64 (jY .u32 32 4 B at').2.2])/\w=w':=by
 unfold jY;by_cases hb:kL B.length at' 4=0
 ·rw[if_pos (by simpa using hb)]
  have hi:0<=at'/\at'.toNat+4<=B.length:=by
   unfold kL at hb;split at hb
   ·cases hb
   ·split at hb
    ·cases hb
    ·rename_i h1 h2
     have h3: ¬at'<0:=fun h=>h1 (.inl h)
     omega
  have hat:at'=(at'.toNat:Int):=by omega
  generalize at'.toNat=i at*;subst hat;have cC:=N7 v B i 4 w h hc hl hi.2;rw[show((4:Nat):Int)=4 from rfl]at cC;replace cC:=af cC;have hlen:((B.drop i).take 4).length=4:=by rw[List.length_take,List.length_drop];omega
  have cR:=af fun v1 (h1:aA bL w v1 ((B.drop i).take 4))=>CY v1 ((B.drop i).take 4) w h1 (by omega)
  rw[hlen]at cR;have hw:IntKind.wrap .i64 ((i:Int)+4)=(i:Int)+4:=by rw[IntKind.wrap_i64];omega
  obtain⟨a,c,rfl⟩:=h.form;change Hid _ at hlen;clear h hc hb;generalize pq .u32 32 ((B.drop i).take 4) 4=R at*;go_enter Tryz.func334,Tryz.ntmps334
  go_wp2_with(first
   |(go_at_call 343;(with_reducible refine cC.out.mono ?_);rintro e w1 ⟨⟨v1,rfl,gu,hc1⟩,rfl⟩;have wG:=af (cR.out v1 gu);obtain⟨a1,n1,hv⟩:=gu.form;rw[hlen.out]at hv;subst hv;clear gu hc1)
   |(go_at_call 345;(with_reducible refine wG.out.mono ?_);rintro e w2 ⟨rfl,rfl⟩))
  go_ret3
  exact⟨rfl,rfl⟩
 ·rw[if_neg (by simpa using hb)]
  have cC:=af (IL v B at' 4 w h hl ha hb);obtain⟨a,c,rfl⟩:=h.form;have hbz:(kL B.length at' 4 !=0)=true:=by simpa using hb
  have hbq:(kL B.length at' 4==0)=false:=by simpa using hb
  generalize kL B.length at' 4=R at*;clear h hc hb;go_enter Tryz.func334,Tryz.ntmps334
  go_wp2_with(go_at_call 343;(with_reducible refine cC.out.mono ?_);rintro e w1 ⟨rfl,rfl⟩)
  go_ret3
  exact⟨rfl,rfl⟩
theorem Om(v:Value)(B:List Int)(at':Int)(w:World)(h:aA bL w v B)(hc:eB v)(hl:B.length<=140737488351232)(ha:at'<=140737488351232):
  Calls Tryz.prog 319 #[v,.int .i64 at'] w fun e w'=>e=.returned (.tuple #[.int .u32 (jY .u32 32 4 B at').1,.int .i64 (jY .u32 32 4 B at').2.1,.int .i64 (jY .u32 32 4 B at').2.2])/\w=w':=by
 have cR:=af (FO v B at' w h hc hl ha);generalize jY .u32 32 4 B at'=R at*;obtain⟨a,c,rfl⟩:=h.form;clear h hc;go_enter Tryz.func319,Tryz.ntmps319
 go_wp2_with(go_at_call 334;(with_reducible refine cR.out.mono ?_);rintro e w1 ⟨rfl,rfl⟩)
 go_ret3
 exact⟨rfl,rfl⟩
theorem CZ(v:Value)(B:List Int)(w:World)(h:aA bL w v B)(hl:B.length<=8):
  Calls Tryz.prog 344 #[v] w fun e w'=>e=.returned (.int .u64 (pq .u64 64 B B.length))/\w=w':=by
 obtain⟨a,c,rfl⟩:=h.form;have hc:Hid (∀k,k<B.length-> ∃q,B.getD k 0=q/\ ∃bb oo,a=some ⟨bb,oo,none⟩/\w.cell? ⟨bb,oo+k,none⟩=some (.int .u8 q)):=af fun k hk=>by
  obtain⟨q,hq⟩: ∃q,B[k]?=some q:=⟨_,List.getElem?_eq_getElem hk⟩;obtain⟨bb,oo,hab,hx⟩:=h.at_ uN (by omega);have e:=hx k q 0 _ hq rfl;simp only[Nat.mul_one,Nat.add_zero]at e;exact⟨q,by simp[List.getD,hq],bb,oo,hab,e⟩
 clear h;obtain⟨R,hR⟩: ∃R,pq .u64 64 B B.length=R:=⟨_,rfl⟩;rw[hR];change Hid _ at hR;generalize B.length=n at*;go_enter Tryz.func344,Tryz.ntmps344
 go_wp2_with fail
 go_loopg[3,7] n (fun g s3 s7 wr=> ∃(k:Nat) (x:Int),k<=n/\g=n-k/\s3=.int .u64 x/\s7=.int .i64 k/\wr=w/\Aside (x=pq .u64 64 B k))
 case atStart=>exact⟨0,0,Nat.zero_le _,rfl,rfl,rfl,rfl,rfl⟩
 case round=>
  obtain⟨k,x,hk,rfl,rfl,rfl,rfl,hx⟩:=hrel;by_cases hkn:k<n
  ·obtain⟨q,hq,bb,oo,rfl,c0⟩:=hc.out k hkn
   have hw:IntKind.wrap .i64 (8*(k:Int))=8*(k:Int):=by rw[IntKind.wrap_i64];omega
   have h8:(0:Int)<=8*(k:Int):=by omega
   have hmin:min (8*k) 64=8*k:=Nat.min_eq_left (by omega);change Hid _ at hx hq;go_wp2_with fail
   go_roundg(n-(k+1))
   case measure=>omega
   case rel=>
    refine⟨k+1,_,by omega,rfl,rfl,by go_num,rfl,?_⟩;rw[hx.out,<-hq.out];unfold Aside
    first
     |rfl
     |(show _=Go.bits .or .u64 (pq .u64 64 B k) (IntKind.u64.wrap (IntKind.u64.wrap (B.getD k 0)*2^min (8*k) 64));first|rw[hmin]|simp[IntKind.wrap_u32])
  ·obtain rfl:k=n:=by omega
   have hxR:x=R:=hx.trans hR.out;subst hxR;clear hx;go_wp2_with fail
   go_ret
   exact⟨rfl,rfl⟩
theorem FP(v:Value)(B:List Int)(at':Int)(w:World)(h:aA bL w v B)(hc:eB v)(hl:B.length<=140737488351232)(ha:at'<=140737488351232):
  Calls Tryz.prog 333 #[v,.int .i64 at',.int .i64 8] w fun e w'=>e=.returned (.tuple #[.int .u64 (jY .u64 64 8 B at').1,.int .i64 (jY .u64 64 8 B at').2.1,.int .i64 (jY .u64 64 8 B at').2.2])/\w=w':=by
 unfold jY;by_cases hb:kL B.length at' 8=0
 ·rw[if_pos (by simpa using hb)]
  have hi:0<=at'/\at'.toNat+8<=B.length:=by
   unfold kL at hb;split at hb
   ·cases hb
   ·split at hb
    ·cases hb
    ·rename_i h1 h2
     have h3: ¬at'<0:=fun h=>h1 (.inl h)
     omega
  have hat:at'=(at'.toNat:Int):=by omega
  generalize at'.toNat=i at*;subst hat;have cC:=N7 v B i 8 w h hc hl hi.2;rw[show((8:Nat):Int)=8 from rfl]at cC;replace cC:=af cC;have hlen:((B.drop i).take 8).length=8:=by rw[List.length_take,List.length_drop];omega
  have cR:=af fun v1 (h1:aA bL w v1 ((B.drop i).take 8))=>CZ v1 ((B.drop i).take 8) w h1 (by omega)
  rw[hlen]at cR;have hw:IntKind.wrap .i64 ((i:Int)+8)=(i:Int)+8:=by rw[IntKind.wrap_i64];omega
  obtain⟨a,c,rfl⟩:=h.form;change Hid _ at hlen;clear h hc hb;generalize pq .u64 64 ((B.drop i).take 8) 8=R at*;go_enter Tryz.func333,Tryz.ntmps333
  go_wp2_with(first
   |(go_at_call 343;(with_reducible refine cC.out.mono ?_);rintro e w1 ⟨⟨v1,rfl,gu,hc1⟩,rfl⟩;have wG:=af (cR.out v1 gu);obtain⟨a1,n1,hv⟩:=gu.form;rw[hlen.out]at hv;subst hv;clear gu hc1)
   |(go_at_call 344;(with_reducible refine wG.out.mono ?_);rintro e w2 ⟨rfl,rfl⟩))
  go_ret3
  exact⟨rfl,rfl⟩
 ·rw[if_neg (by simpa using hb)]
  have cC:=af (IL v B at' 8 w h hl ha hb);obtain⟨a,c,rfl⟩:=h.form;have hbz:(kL B.length at' 8 !=0)=true:=by simpa using hb
  have hbq:(kL B.length at' 8==0)=false:=by simpa using hb
  generalize kL B.length at' 8=R at*;clear h hc hb;go_enter Tryz.func333,Tryz.ntmps333
  go_wp2_with(go_at_call 343;(with_reducible refine cC.out.mono ?_);rintro e w1 ⟨rfl,rfl⟩)
  go_ret3
  exact⟨rfl,rfl⟩
theorem Oo(v:Value)(B:List Int)(at':Int)(w:World)(h:aA bL w v B)(hc:eB v)(hl:B.length<=140737488351232)(ha:at'<=140737488351232):
  Calls Tryz.prog 318 #[v,.int .i64 at'] w fun e w'=>e=.returned (.tuple #[.int .u64 (jY .u64 64 8 B at').1,.int .i64 (jY .u64 64 8 B at').2.1,.int .i64 (jY .u64 64 8 B at').2.2])/\w=w':=by
 have cR:=af (FP v B at' w h hc hl ha);generalize jY .u64 64 8 B at'=R at*;obtain⟨a,c,rfl⟩:=h.form;clear h hc;go_enter Tryz.func318,Tryz.ntmps318
 go_wp2_with(go_at_call 333;(with_reducible refine cR.out.mono ?_);rintro e w1 ⟨rfl,rfl⟩)
 go_ret3
 exact⟨rfl,rfl⟩
end Go.Proofs.YtedcakchekaemaaGreatDoor
namespace Go.Proofs.YtedcakchekaemaaGreatDoor
open Go.RowKit Go.Shelf
variable [Kd]
attribute [local go_sem] Oper.semAt_some
section
variable {w W : World} {x0 x y : Int} {n : Int}
theorem KeepsOthers.drew'(W:World):KeepsOthers W W.drew:=⟨Nat.le_refl _,fun _ _ h _=>h⟩
theorem CW(k1:W.heap[w.heap.size]?=some (.cells #[.int .u64 x0] 51 (0,0)))(k2:W.heap[w.heap.size+1]?=some (.cells #[.int .i64 n] 3 (0,0)))(k3:W.heap[w.heap.size+1+1]?=some (.cells #[.bool false] 4 (0,0)))(hB:Below w.heap.size w W):
  KeepsOthers W (W.setCell ⟨w.heap.size+1,0,none⟩ (.int .i64 y))/\
  ((W.setCell ⟨w.heap.size+1,0,none⟩ (.int .i64 y)).heap[w.heap.size]?=some (.cells #[.int .u64 x0] 51 (0,0))/\(W.setCell ⟨w.heap.size+1,0,none⟩ (.int .i64 y)).heap[w.heap.size+1]?=some (.cells #[.int .i64 y] 3 (0,0))/\(W.setCell ⟨w.heap.size+1,0,none⟩ (.int .i64 y)).heap[w.heap.size+1+1]?=some (.cells #[.bool false] 4 (0,0)))/\
  Below w.heap.size w (W.setCell ⟨w.heap.size+1,0,none⟩ (.int .i64 y)):=by
 have hO:ai [w.heap.size+1] W (W.setCell ⟨w.heap.size+1,0,none⟩ (.int .i64 y)):=(ai.refl _ _).setCell (.inl (by simp)) _;exact⟨KeepsOthers.setCell _ _ _,⟨hO.heap k1 (by simp),heap_setCell_same _ _ _ _ _ _ k2,hO.heap k3 (by simp)⟩,hB.setCell (by show w.heap.size<=w.heap.size+1;omega) _⟩
theorem CX(k1:W.heap[w.heap.size]?=some (.cells #[.int .u64 x0] 51 (0,0)))(k2:W.heap[w.heap.size+1]?=some (.cells #[.int .i64 n] 3 (0,0)))(k3:W.heap[w.heap.size+1+1]?=some (.cells #[.bool false] 4 (0,0)))(hB:Below w.heap.size w W):
  KeepsOthers W (((W.setCell ⟨w.heap.size+1,0,none⟩ (.int .i64 y)).setCell ⟨w.heap.size,0,none⟩ (.int .u64 x)).drew)/\rH w.heap.size (w.heap.size+1+1+1) W (((W.setCell ⟨w.heap.size+1,0,none⟩ (.int .i64 y)).setCell ⟨w.heap.size,0,none⟩ (.int .u64 x)).drew)/\
  ((((W.setCell ⟨w.heap.size+1,0,none⟩ (.int .i64 y)).setCell ⟨w.heap.size,0,none⟩ (.int .u64 x)).drew).heap[w.heap.size]?=some (.cells #[.int .u64 x] 51 (0,0))/\(((W.setCell ⟨w.heap.size+1,0,none⟩ (.int .i64 y)).setCell ⟨w.heap.size,0,none⟩ (.int .u64 x)).drew).heap[w.heap.size+1]?=some (.cells #[.int .i64 y] 3 (0,0))/\(((W.setCell ⟨w.heap.size+1,0,none⟩ (.int .i64 y)).setCell ⟨w.heap.size,0,none⟩ (.int .u64 x)).drew).heap[w.heap.size+1+1]?=some (.cells #[.bool false] 4 (0,0)))/\
  Below w.heap.size w (((W.setCell ⟨w.heap.size+1,0,none⟩ (.int .i64 y)).setCell ⟨w.heap.size,0,none⟩ (.int .u64 x)).drew):=by
 obtain⟨q1,⟨q2,q3,q4⟩,q5⟩:=CW (y:=y) k1 k2 k3 hB;have hO:ai [w.heap.size] (W.setCell ⟨w.heap.size+1,0,none⟩ (.int .i64 y)) (((W.setCell ⟨w.heap.size+1,0,none⟩ (.int .i64 y)).setCell ⟨w.heap.size,0,none⟩ (.int .u64 x)).drew):=((ai.refl _ _).setCell (.inl (by simp)) _).drew;have hOW:ai [w.heap.size,w.heap.size+1] W (((W.setCell ⟨w.heap.size+1,0,none⟩ (.int .i64 y)).setCell ⟨w.heap.size,0,none⟩ (.int .u64 x)).drew):=(((ai.refl _ _).setCell (.inl (by simp)) _).setCell (.inl (by simp)) _).drew;have hb:Below w.heap.size W (((W.setCell ⟨w.heap.size+1,0,none⟩ (.int .i64 y)).setCell ⟨w.heap.size,0,none⟩ (.int .u64 x)).drew):=hOW.below hB.size (by simp);exact⟨(q1.trans (KeepsOthers.setCell _ _ _)).trans (KeepsOthers.drew' _),⟨hb,fun o ho _=>hOW.heap ho (by simp;omega)⟩,⟨heap_setCell_same _ _ _ _ _ _ q2,hO.heap q3 (by simp),hO.heap q4 (by simp;omega)⟩,hB.trans hb⟩
theorem Oh(k1:W.heap[w.heap.size]?=some (.cells #[.int .u64 x0] 51 (0,0)))(k2:W.heap[w.heap.size+1]?=some (.cells #[.int .i64 n] 3 (0,0)))(k3:W.heap[w.heap.size+1+1]?=some (.cells #[.bool false] 4 (0,0)))(hB:Below w.heap.size w W):
  KeepsOthers W ((((W.setCell ⟨w.heap.size+1,0,none⟩ (.int .i64 y)).setCell ⟨w.heap.size,0,none⟩ (.int .u64 x)).setCell ⟨w.heap.size+1+1,0,none⟩ (.bool true)).drew)/\
  (((((W.setCell ⟨w.heap.size+1,0,none⟩ (.int .i64 y)).setCell ⟨w.heap.size,0,none⟩ (.int .u64 x)).setCell ⟨w.heap.size+1+1,0,none⟩ (.bool true)).drew).heap[w.heap.size]?=some (.cells #[.int .u64 x] 51 (0,0))/\((((W.setCell ⟨w.heap.size+1,0,none⟩ (.int .i64 y)).setCell ⟨w.heap.size,0,none⟩ (.int .u64 x)).setCell ⟨w.heap.size+1+1,0,none⟩ (.bool true)).drew).heap[w.heap.size+1]?=some (.cells #[.int .i64 y] 3 (0,0))/\((((W.setCell ⟨w.heap.size+1,0,none⟩ (.int .i64 y)).setCell ⟨w.heap.size,0,none⟩ (.int .u64 x)).setCell ⟨w.heap.size+1+1,0,none⟩ (.bool true)).drew).heap[w.heap.size+1+1]?=some (.cells #[.bool true] 4 (0,0)))/\
  Below w.heap.size w ((((W.setCell ⟨w.heap.size+1,0,none⟩ (.int .i64 y)).setCell ⟨w.heap.size,0,none⟩ (.int .u64 x)).setCell ⟨w.heap.size+1+1,0,none⟩ (.bool true)).drew):=by
 obtain⟨q1,q0,⟨q2,q3,q4⟩,q5⟩:=CX (x:=x) (y:=y) k1 k2 k3 hB;generalize hW1:((W.setCell ⟨w.heap.size+1,0,none⟩ (.int .i64 y)).setCell ⟨w.heap.size,0,none⟩ (.int .u64 x))=W1 at*;have r2:W1.heap[w.heap.size]?=_:=q2;have r3:W1.heap[w.heap.size+1]?=_:=q3;have r4:W1.heap[w.heap.size+1+1]?=_:=q4;have hO:ai [w.heap.size+1+1] W1 ((W1.setCell ⟨w.heap.size+1+1,0,none⟩ (.bool true)).drew):=((ai.refl _ _).setCell (.inl (by simp)) _).drew;have s1:KeepsOthers W W1:=⟨q1.size,q1.same⟩;have s5:Below w.heap.size w W1:=⟨q5.os,q5.tape,q5.output,q5.size,q5.block⟩;exact⟨(s1.trans (KeepsOthers.setCell _ _ _)).trans (KeepsOthers.drew' _),⟨hO.heap r2 (by simp;omega),hO.heap r3 (by simp),heap_setCell_same _ _ _ _ _ _ r4⟩,s5.trans (hO.below s5.size (by simp;omega))⟩
end
def abk(w:World)(pre:List (Nat×Int))(W:World):Prop:=
 ∃(x:Int) (n:Nat),(n=pre.length/\ ∀r,wz (pre++r) 0 0=wz r x n)/\W.heap[w.heap.size]?=some (.cells #[.int .u64 x] 51 (0,0))/\W.heap[w.heap.size+1]?=some (.cells #[.int .i64 n] 3 (0,0))/\W.heap[w.heap.size+1+1]?=some (.cells #[.bool false] 4 (0,0))
def abl(w:World)(cd:Code)(pre:List (Nat×Int))(W:World):Prop:=
 cd=.exit 0/\ ∃(x:Int) (n:Nat) (d:Bool),(∀r,wz (pre++r) 0 0=(x,n,d))/\W.heap[w.heap.size]?=some (.cells #[.int .u64 x] 51 (0,0))/\W.heap[w.heap.size+1]?=some (.cells #[.int .i64 n] 3 (0,0))/\W.heap[w.heap.size+1+1]?=some (.cells #[.bool d] 4 (0,0))
def nE(B:List Int)(i:Nat)(w:World)(e:Ending)(w':World):Prop:=
 (match nD B i with
  |some (x,j)=>e=.returned (.tuple #[.int .u64 x,.int .i64 j,.int .i64 0])
  |none=> ∃ec:Int,ec≠0/\e=.returned (.tuple #[.int .u64 0,.int .i64 0,.int .i64 ec]))/\ai [] w w'
theorem RL{B:List Int}(hB:ol B){i:Nat}{x:Int}{n:Nat}(h:wz (o9 (B.drop i)) 0 0=(x,n,true)):nD B i=some (x,i+n):=by
 rw[CV]at h;have k:=AQ (B.drop i) 0 0 (hB.drop i) (by omega) (by omega) (by simp);unfold nD;cases hv:qY (B.drop i) 0 0 with
 |none=>
  rw[hv]at k;obtain⟨y,m,k⟩:=k;rw[k]at h;cases h
 |some p=>
  rw[hv]at k;simp only at k;rw[k]at h;cases h;rfl
theorem IV{B:List Int}(hB:ol B){i:Nat}{x:Int}{n:Nat}(h:wz (o9 (B.drop i)) 0 0=(x,n,false)):nD B i=none:=by
 rw[CV]at h;have k:=AQ (B.drop i) 0 0 (hB.drop i) (by omega) (by omega) (by simp);unfold nD;cases hv:qY (B.drop i) 0 0 with
 |none=>rfl
 |some p=>
  rw[hv]at k;simp only at k;rw[k]at h;cases h
theorem nE.no{B:List Int}{i:Nat}{w w':World}{ec:Int}(h:nD B i=none)(he:ec≠0)(ho:ai [] w w'):nE B i w (.returned (.tuple #[.int .u64 0,.int .i64 0,.int .i64 ec])) w':=by
 unfold nE;rw[h];exact⟨⟨ec,he,rfl⟩,ho⟩
theorem nE.yes{B:List Int}{i j:Nat}{w w':World}{x:Int}(h:nD B i=some (x,j))(ho:ai [] w w'):nE B i w (.returned (.tuple #[.int .u64 x,.int .i64 j,.int .i64 0])) w':=by
 unfold nE;rw[h];exact⟨rfl,ho⟩
theorem Oi(xs:Nat)(xc:Int)(r:List (Nat×Int))(v:Int)(h:1<xc):wz ((xs,xc)::r) v 9=(v,10,false):=by simp only[wz];rw[if_pos (by simpa using h)]
theorem Oj(xs:Nat)(xc:Int)(r:List (Nat×Int))(v:Int)(n:Nat)(h: ¬(n+1=10/\1<xc))(hc:xc<128):
 wz ((xs,xc)::r) v n=(Go.bits .or .u64 v (IntKind.u64.wrap (IntKind.u64.wrap (Go.bits .and .u8 xc 127)*2^min xs 64)),n+1,true):=by simp only[wz];rw[if_neg h,if_pos hc]
theorem Ol(xs:Nat)(xc:Int)(r:List (Nat×Int))(v:Int)(n:Nat)(h: ¬(n+1=10/\1<xc))(hc: ¬xc<128):
 wz ((xs,xc)::r) v n=wz r (Go.bits .or .u64 v (IntKind.u64.wrap (IntKind.u64.wrap (Go.bits .and .u8 xc 127)*2^min xs 64))) (n+1):=by simp only[wz];rw[if_neg h,if_neg hc]
theorem RN(v:Value)(B:List Int)(i:Nat)(w:World)(h:aA bL w v B)(hc:eB v)(hl:B.length<=140737488351232)(hi:i<=B.length)(hIB:ol B):
  Calls Tryz.prog 289 #[v,.int .i64 i] w (nE B i w):=by
 obtain⟨v1,hs,hR,_,hc1⟩:=h.drop NZ hc (i:=i) hi;obtain⟨a,c,rfl⟩:=h.form;obtain⟨a1,c1,rfl⟩:=hR.form;have hs':=hs (((w.alloc (.cells #[.int .u64 0] 51)).alloc (.cells #[.int .i64 0] 3)).alloc (.cells #[.bool false] 4));have cS:=af fun a n c W=>Og a n c W
 have h0: ¬((i:Int)<0):=by omega
 have h1:(i:Int)<=B.length:=by omega
 refine(callsIn_wide (n:=7)).1 ?_;refine callsIn_of_wp_marks Tryz.func289 rfl trivial ?_ rfl;simp only[Tryz.ntmps289,List.size_toArray,List.length_cons,List.length_nil,Nat.reduceAdd,Nat.reduceSub,Array.replicate_succ,Array.replicate_zero,List.push_toArray,List.append_toArray,List.nil_append,List.cons_append];refine wpIn_wide.2 ?_;go_wp2
 go_step3
 go_wp2_with(go_at_call 317;(with_reducible refine(cS.out _ _ _ _).mono ?_);rintro e w1 ⟨rfl,rfl⟩)
 go_step3
 go_wp2_with(go_at_call 317;(with_reducible refine(cS.out _ _ _ _).mono ?_);rintro e w1 ⟨rfl,rfl⟩)
 refine(wpIn_wide (n:=6)).1 ?_;obtain⟨W0,hW0⟩: ∃W0,((((w.alloc (.cells #[.int .u64 0] 51)).alloc (.cells #[.int .i64 0] 3)).alloc (.cells #[.bool false] 4)).alloc (.cells #[.slice a1 (B.length-i) c1] 23))=W0:=⟨_,rfl⟩;have hA:ai [] w W0:=by rw[<-hW0];exact((((ai.refl [] w).alloc _).alloc _).alloc _).alloc _
 have hsz:W0.heap.size=w.heap.size+4:=by rw[<-hW0];simp
 have hb3:W0.heap[w.heap.size+1+1+1]?=some (.cells #[.slice a1 (B.length-i) c1] 23 (0,0)):=by
  rw[<-hW0];have:=heap_alloc_new (((w.alloc (.cells #[.int .u64 0] 51)).alloc (.cells #[.int .i64 0] 3)).alloc (.cells #[.bool false] 4)) (.cells #[.slice a1 (B.length-i) c1] 23);simpa using this
 have hlen:(B.drop i).length=B.length-i:=List.length_drop;rw[hW0];refine wpIn_rangeFunc_ownF rfl (by omega) (gf:=332) (lb:=#[.pointer (some ⟨w.heap.size+1+1+1,0,none⟩)]) rfl trivial (enters_of Tryz.func332 (by kernel_rfl) rfl)
  (Oe 5 (by omega) w.heap.size (w.heap.size+1+1+1) a1 c1 (B.drop i) W0 hA.size (by omega) (by rw[hlen];exact hb3) (fun W' hb=>hR.nil' (ai.of_below ((hA.below (Nat.le_refl _) (by simp)).trans hb) (Nat.le_refl _))) (by omega)) (fun h k=>h.trans k) ?b6 (Below.refl _ _) (fun _=>rfl)
  (fun pre W=>abk w pre W/\Below w.heap.size w W)
  (fun cd pre W=>abl w cd pre W/\Below w.heap.size w W)
  (OwnFrom.and (Own.from (fun s A B row hs hg hr=>by obtain⟨x,n,e,k1,k2,k3⟩:=hs;exact⟨x,n,e,(grownBy_keeps_cells hg hr k1 rfl).trans k1,(grownBy_keeps_cells hg hr k2 rfl).trans k2,(grownBy_keeps_cells hg hr k3 rfl).trans k3⟩) _) (ownFrom_below (Nat.le_refl _) hA.size))
  (fun cd=>OwnFrom.and (Own.from (fun s A B row hs hg hr=>by obtain⟨ec,x,n,d,e,k1,k2,k3⟩:=hs;exact⟨ec,x,n,d,e,(grownBy_keeps_cells hg hr k1 rfl).trans k1,(grownBy_keeps_cells hg hr k2 rfl).trans k2,(grownBy_keeps_cells hg hr k3 rfl).trans k3⟩) _) (ownFrom_below (Nat.le_refl _) hA.size))
  ?b9 (fun x=>{tmps:=#[.slice a B.length c,.int .i64 i,undef,undef,.int .u64 0,.int .i64 0,.int .i64 0,.pointer (some ⟨w.heap.size,0,none⟩),.pointer (some ⟨w.heap.size+1,0,none⟩),.pointer (some ⟨w.heap.size+1+1,0,none⟩),.int .i64 (x.1:Int),.int .u8 x.2,.int .i64 i,.bool (decide ((i:Int)<0)),.bool (decide ((i:Int)<0)),.int .i64 i,.slice a B.length c,.int .i64 B.length,.bool false,.bool (decide ((i:Int)<0)),.slice a B.length c,.int .i64 i,.slice a1 (B.length-i) c1,.func (.func 332) #[] #[.pointer (some ⟨w.heap.size+1+1+1,0,none⟩)],.int .i64 (x.1:Int),.int .u8 x.2,undef,undef,undef,undef,undef,undef,undef,undef,undef,undef,undef,undef,undef,undef,undef,undef,undef,undef,undef,undef,undef,undef,undef,undef,undef,undef],defers:=[]}) ?assign ?body ?done ?stop
 case b6=>
  intro W l o o' hl2 ho hc _;refine⟨belowK_b (w:=W0) hA.size W l o o' hl2 ho hc ‹_›,fun o2 h2 h3=>?_⟩;have hne:w.heap.size+1+1+1≠l:=fun e=>by rw[e,ho]at h2;cases h2;rw[hc]at h3;cases h3
  exact(World.putObj_heap_other hne).trans h2
 case b9=>
  refine⟨⟨0,0,⟨rfl,fun r=>rfl⟩,?_,?_,?_⟩,hA.below (Nat.le_refl _) (by simp)⟩
  ·rw[<-hW0];exact((((ai.refl [] (w.alloc (.cells #[.int .u64 0] 51))).alloc _).alloc _).alloc _).heap (heap_alloc_new w _) (by simp)
  ·rw[<-hW0];exact(((ai.refl [] ((w.alloc (.cells #[.int .u64 0] 51)).alloc (.cells #[.int .i64 0] 3))).alloc _).alloc _).heap (heap_alloc2_new w _ _) (by simp)
  ·rw[<-hW0]
   have:=heap_alloc_new ((w.alloc (.cells #[.int .u64 0] 51)).alloc (.cells #[.int .i64 0] 3)) (.cells #[.bool false] 4);exact((ai.refl [] (((w.alloc (.cells #[.int .u64 0] 51)).alloc (.cells #[.int .i64 0] 3)).alloc (.cells #[.bool false] 4))).alloc _).heap (by simpa using this) (by simp)
 case assign=>
  intro l x W K hK
  gi_wp2
  exact hK
 case body=>
  rintro l pre x W ⟨⟨x0,n,⟨e1,e2⟩,k1,k2,k3⟩,hB⟩ hlt;obtain⟨xs,xc⟩:=x;have v0:=cell_of_row W w.heap.size 0 _ _ _ k1;have v1:=cell_of_row W (w.heap.size+1) 0 _ _ _ k2;have v2:=cell_of_row W (w.heap.size+1+1) 0 _ _ _ k3;have z0:=frozen_of_row W w.heap.size 0 _ _ k1;have z1:=frozen_of_row W (w.heap.size+1) 0 _ _ k2;have z2:=frozen_of_row W (w.heap.size+1+1) 0 _ _ k3;have adU:n<10:=by omega
  have hwn:IntKind.wrap .i64 ((n:Int)+1)=(n:Int)+1:=by rw[IntKind.wrap_i64];omega
  have hN:=af (CW (w:=w) (y:=(n:Int)+1) k1 k2 k3 hB);have hV:=af fun y=>CX (w:=w) (y:=(n:Int)+1) (x:=y) k1 k2 k3 hB
  have hD:=af fun y=>Oh (w:=w) (y:=(n:Int)+1) (x:=y) k1 k2 k3 hB
  have hlen:(pre++[(xs,xc)]).length=n+1:=by rw[List.length_append,<-e1];rfl
  change Hid _ at e1 hlen;have e3:=af fun r=>e2 ((xs,xc)::r)
  clear e2 hlt hB k1 k2 k3;by_cases hx:n+1=10/\1<xc
  ·obtain⟨h9,hxc⟩:=hx
   obtain rfl:n=9:=by omega
   replace e3:=af fun r=>(e3.out r).trans (Oi xs xc r x0 hxc)
   gi_wp2
   refine⟨hN.out.1,⟨rfl,x0,10,false,fun r=>?_,hN.out.2.1⟩,hN.out.2.2⟩;rw[List.append_assoc];exact e3.out r
  ·by_cases hc:xc<128
   ·replace e3:=af fun r=>(e3.out r).trans (Oj xs xc r x0 n hx hc)
    by_cases h9:n=9
    ·have hxc:xc<=1:=by omega
     subst h9
     gi_wp2
     gi_region
     all_goals
      gi_wp2
      refine⟨(hD.out _).1,⟨rfl,_,10,true,fun r=>?_,(hD.out _).2.1⟩,(hD.out _).2.2⟩;rw[List.append_assoc];exact e3.out r
    ·have h10: ¬((n:Int)+1=10):=by omega
     gi_wp2
     gi_region
     all_goals
      gi_wp2
      refine⟨(hD.out _).1,⟨rfl,_,n+1,true,fun r=>?_,(hD.out _).2.1⟩,(hD.out _).2.2⟩;rw[List.append_assoc];exact e3.out r
   ·replace e3:=af fun r=>(e3.out r).trans (Ol xs xc r x0 n hx hc)
    have h10: ¬((n:Int)+1=10):=by omega
    gi_wp2
    gi_region
    all_goals
     gi_wp2
     refine⟨(hV.out _).1,(hV.out _).2.1,⟨_,n+1,⟨hlen.out.symm,fun r=>?_⟩,(hV.out _).2.2.1⟩,(hV.out _).2.2.2⟩;rw[List.append_assoc];exact e3.out r
 case done=>
  rintro D ys W hD rfl ⟨⟨x,n,⟨e1,e2⟩,k1,k2,k3⟩,hBW⟩ hK;have hno:=af (IV hIB (by simpa[wz]using e2 []));have v1:=cell_of_row W (w.heap.size+1) 0 _ _ _ k2;have v2:=cell_of_row W (w.heap.size+1+1) 0 _ _ _ k3;have hO:=af (ai.of_below (hBW.trans (belowK_b (w:=w) (Nat.le_refl _) W D _ (.deferred none) (by omega) hK rfl rfl)) (Nat.le_refl _));clear e1 e2 k1 k2 k3;by_cases h10:n=10
  ·subst h10
   go_wp2_with fail
   rw[Exit.noGoto_ret];refine⟨by simp,.inl ⟨_,_,rfl,run_takeDeferred hK,?_⟩⟩;refine⟨_,results_tmp3 rfl _ _ _,?_⟩;exact nE.no hno.out (by decide) hO.out
  ·have abu: ¬((n:Int)=10):=by omega
   go_wp2_with fail
   rw[Exit.noGoto_ret];refine⟨by simp,.inl ⟨_,_,rfl,run_takeDeferred hK,?_⟩⟩;refine⟨_,results_tmp3 rfl _ _ _,?_⟩;exact nE.no hno.out (by decide) hO.out
 case stop=>
  rintro D cd pre W hD ⟨k,rfl⟩ ⟨⟨rfl,x,n,d,e2,k1,k2,k3⟩,hBW⟩ hK;have he:=e2 ((o9 (B.drop i)).drop k);rw[List.take_append_drop]at he;have v0:=cell_of_row W w.heap.size 0 _ _ _ k1;have v1:=cell_of_row W (w.heap.size+1) 0 _ _ _ k2;have v2:=cell_of_row W (w.heap.size+1+1) 0 _ _ _ k3;have hO:=af (ai.of_below (hBW.trans (belowK_b (w:=w) (Nat.le_refl _) W D _ (.deferred none) (by omega) hK rfl rfl)) (Nat.le_refl _));clear e2 k1 k2 k3;refine wpIn_wide.2 ?_;cases d with
  |true=>
   have Eu:=RL hIB he;obtain⟨_,hj,_⟩:=jX hIB hi Eu;have hw:IntKind.wrap .i64 ((i:Int)+n)=(i:Int)+n:=by rw[IntKind.wrap_i64];omega
   change Hid _ at Eu;have hKd:W.drew.heap[D]?=some (.deferred (some [])):=hK;have qX:=af (ai.of_below ((show Below w.heap.size w W.drew from⟨hBW.os,hBW.tape,hBW.output,hBW.size,hBW.block⟩).trans (belowK_b (w:=w) (Nat.le_refl _) W.drew D _ (.deferred none) (by omega) hKd rfl rfl)) (Nat.le_refl _));clear he hj;go_wp2_with fail
   go_region
   all_goals
    go_wp2_with fail
    rw[Exit.noGoto_ret];refine⟨by simp,.inl ⟨_,_,rfl,run_takeDeferred hKd,?_⟩⟩;refine⟨_,results_tmp3 rfl _ _ _,?_⟩;exact nE.yes Eu.out qX.out
  |false=>
   have hno:=af (IV hIB he);clear he;by_cases h10:n=10
   ·subst h10
    go_wp2_with fail
    rw[Exit.noGoto_ret];refine⟨by simp,.inl ⟨_,_,rfl,run_takeDeferred hK,?_⟩⟩;refine⟨_,results_tmp3 rfl _ _ _,?_⟩;exact nE.no hno.out (by decide) hO.out
   ·have abu: ¬((n:Int)=10):=by omega
    go_wp2_with fail
    rw[Exit.noGoto_ret];refine⟨by simp,.inl ⟨_,_,rfl,run_takeDeferred hK,?_⟩⟩;refine⟨_,results_tmp3 rfl _ _ _,?_⟩;exact nE.no hno.out (by decide) hO.out
end Go.Proofs.YtedcakchekaemaaGreatDoor
namespace Go.Proofs.YtedcakchekaemaaGreatDoor
variable [Kd]
theorem Yh{B:List Int}(hB:ol B)(hl:B.length<=4): ∀k,k<=B.length->pq .u32 32 B k=lu (B.take k)
 |0,_=>by simp[pq,lu]
 |k+1,hk=>by
  have hg:B.getD k 0=B[k]'(by omega):=by simp[List.getD,List.getElem?_eq_getElem (show k<B.length by omega)]
  have ht:B.take (k+1)=B.take k++[B.getD k 0]:=by rw[List.take_succ_eq_append_getElem (by omega),hg]
  obtain⟨c0,c1⟩:=hB (B.getD k 0) (by rw[hg];exact List.getElem_mem _);obtain⟨r0,r1⟩:=jv (B.take k) (hB.take k);have hlen:(B.take k).length=k:=by rw[List.length_take];omega
  rw[hlen]at r1;obtain⟨s0,s1⟩:=jv (B.take (k+1)) (hB.take _);have hlen1:(B.take (k+1)).length=k+1:=by rw[List.length_take];omega
  rw[hlen1]at s1;have hx:=uQ (B.take k) (B.getD k 0);rw[<-ht,hlen]at hx;have hp:(0:Int)<2^(8*k):=Int.pow_pos (by omega);have QF:0<=B.getD k 0*2^(8*k):=Int.mul_nonneg c0 (Int.le_of_lt hp);have hle:(2:Int)^(8*(k+1))<=2^32:=wo (by omega);unfold pq;rw[Yh hB hl k (by omega),hx,Nat.min_eq_left (by omega)];have e1:IntKind.u32.wrap (B.getD k 0)=B.getD k 0:=by rw[IntKind.wrap_u32];omega
  rw[e1];have e2:IntKind.u32.wrap (B.getD k 0*2^(8*k))=B.getD k 0*2^(8*k):=by rw[IntKind.wrap_u32];omega
  rw[e2];exact Ob r0 r1 c0 (by omega)
theorem Yi{B:List Int}(hB:ol B)(hl:B.length<=8): ∀k,k<=B.length->pq .u64 64 B k=lu (B.take k)
 |0,_=>by simp[pq,lu]
 |k+1,hk=>by
  have hg:B.getD k 0=B[k]'(by omega):=by simp[List.getD,List.getElem?_eq_getElem (show k<B.length by omega)]
  have ht:B.take (k+1)=B.take k++[B.getD k 0]:=by rw[List.take_succ_eq_append_getElem (by omega),hg]
  obtain⟨c0,c1⟩:=hB (B.getD k 0) (by rw[hg];exact List.getElem_mem _);obtain⟨r0,r1⟩:=jv (B.take k) (hB.take k);have hlen:(B.take k).length=k:=by rw[List.length_take];omega
  rw[hlen]at r1;obtain⟨s0,s1⟩:=jv (B.take (k+1)) (hB.take _);have hlen1:(B.take (k+1)).length=k+1:=by rw[List.length_take];omega
  rw[hlen1]at s1;have hx:=uQ (B.take k) (B.getD k 0);rw[<-ht,hlen]at hx;have hp:(0:Int)<2^(8*k):=Int.pow_pos (by omega);have QF:0<=B.getD k 0*2^(8*k):=Int.mul_nonneg c0 (Int.le_of_lt hp);have hle:(2:Int)^(8*(k+1))<=2^64:=wo (by omega);unfold pq;rw[Yi hB hl k (by omega),hx,Nat.min_eq_left (by omega)];have e1:IntKind.u64.wrap (B.getD k 0)=B.getD k 0:=by rw[IntKind.wrap_u64];omega
  rw[e1];have e2:IntKind.u64.wrap (B.getD k 0*2^(8*k))=B.getD k 0*2^(8*k):=by rw[IntKind.wrap_u64];omega
  rw[e2];exact CU r0 r1 c0 (by omega)
end Go.Proofs.YtedcakchekaemaaGreatDoor
namespace Go.Proofs.YtedcakchekaemaaGreatDoor
open Go.RowKit
variable [Kd]
theorem xE{W:World}{v:Value}{L:List Int}(hR:aA bL W v L):(convert 23 9 v).run Tryz.prog W=.ok (.string (strOfNums L)) W:=by
 rcases hR with⟨rfl,rfl⟩|⟨g,o,cap,rfl,hx⟩
 ·exact run_convert_bytes_nil W _ _ Tryz.underlying23 Tryz.underlying5 0 0 _ Tryz.underlying9
 ·refine run_convert_bytes_arg W _ _ Tryz.underlying23 Tryz.underlying5 g o L.length cap L rfl (fun i hi=>?_) _ Tryz.underlying9
  refine hx i _ ?_;have e:=fe uN L i 0 L[i] (List.getElem?_eq_getElem hi) (by omega);simp only[Nat.mul_one,Nat.add_zero]at e;rw[e];simp[bL,List.getD,List.getElem?_eq_getElem hi]
theorem nG(s:ByteArray)(w:World): ∃w1 c,(convert 9 23 (.string s)).run Tryz.prog w=.ok (.slice (some ⟨w.heap.size,0,none⟩) s.size c) w1/\
  aA bL w1 (.slice (some ⟨w.heap.size,0,none⟩) s.size c) (ak s)/\eB (.slice (some ⟨w.heap.size,0,none⟩) s.size c)/\ai [] w w1/\w1.heap.size=w.heap.size+1:=by
 refine⟨_,_,Lib.run_convert_string_bytes w _ _ _ s Tryz.underlying9 Tryz.underlying23 Tryz.underlying5,.inr ⟨w.heap.size,0,_,by rw[dM],fun j u hu=>?_⟩,?_,?_,Lib.bytesWorld_size _ _ _⟩
 ·have hj:j<s.size:=by
   have:=(List.getElem?_eq_some_iff.1 hu).1;rw[aW uN,dM]at this;omega
  rw[Nat.zero_add,Lib.bytesWorld_cell w _ s j hj,<-hu];have hjb:j<(ak s).length:=by rw[dM];exact hj
  have e:=fe uN (ak s) j 0 _ (List.getElem?_eq_getElem hjb) (by omega);simp only[Nat.mul_one,Nat.add_zero]at e;rw[e];have hj2:j<s.data.toList.length:=by simpa using hj
  simp[bL,ak,List.getD,List.getElem?_eq_getElem hj2]
 ·intro a n c e
  cases e;exact grownCap_ge _ _ _ _
 ·have hf: ∀(W:World) (a:Addr) (k:Nat),(W.freeze a k).os=W.os/\(W.freeze a k).tape=W.tape/\(W.freeze a k).output=W.output:=fun W a k=>by unfold World.freeze;split<;>exact⟨rfl,rfl,rfl⟩
  refine⟨(hf _ _ _).1,(hf _ _ _).2.1,(hf _ _ _).2.2,by rw[Lib.bytesWorld_size];omega,fun k hk _=>Lib.bytesWorld_at_old w _ s k hk⟩
abbrev eF(v:Value)(i:Nat)(op out:Value):Array Value:=#[v,.int .i64 i,op,out]
theorem Oq{w:World}{r:Nat}{v:Value}{i:Nat}{op out:Value}(h:w.heap[r]?=some (.cells (eF v i op out) 339 (0,0))):
  (w.cell? ⟨r,0,none⟩=some v/\w.cell? ⟨r,1,none⟩=some (.int .i64 i)/\w.cell? ⟨r,2,none⟩=some op/\w.cell? ⟨r,3,none⟩=some out)/\ ∀j,w.frozen? ⟨r,j,none⟩=false:=
 ⟨⟨by rw[cell_of_row _ _ _ _ _ _ h];rfl,by rw[cell_of_row _ _ _ _ _ _ h];rfl,by rw[cell_of_row _ _ _ _ _ _ h];rfl,by rw[cell_of_row _ _ _ _ _ _ h];rfl⟩,fun j=>frozen_of_row _ _ j _ _ h⟩
theorem AR{w:World}{r:Nat}{v:Value}{i:Nat}{op out:Value}(j:Nat)(h:w.heap[r]?=some (.cells (eF v i op out) 339 (0,0))):
  (w.setCell ⟨r,1,none⟩ (.int .i64 j)).heap[r]?=some (.cells (eF v j op out) 339 (0,0))/\ai [r] w (w.setCell ⟨r,1,none⟩ (.int .i64 j)):=
 ⟨by have:=heap_setCell_same _ r 1 _ _ (.int .i64 (j:Int)) h;simpa[eF]using this,(ai.refl _ _).setCell (.inl (by simp)) _⟩
def tF(B:List Int)(r:Nat)(v:Value)(i:Nat)(op out:Value)(w:World)(e:Ending)(w':World):Prop:=
 match nD B i with
 |some (x,j)=>e=.returned (.tuple #[.int .u64 x,.int .i64 0])/\w'.heap[r]?=some (.cells (eF v j op out) 339 (0,0))/\ai [r] w w'
 |none=>(∃ec:Int,ec≠0/\e=.returned (.tuple #[.int .u64 0,.int .i64 ec]))/\ai [] w w'
theorem sw(r:Nat)(v op out:Value)(B:List Int)(i:Nat)(w:World)(h:w.heap[r]?=some (.cells (eF v i op out) 339 (0,0)))(hR:aA bL w v B)(hc:eB v)(hB:ol B)(hl:B.length<=4096)(hi:i<=B.length):
  Calls Tryz.prog 253 #[.pointer (some ⟨r,0,none⟩)] w (tF B r v i op out w):=by
 obtain⟨⟨c0,c1,c2,c3⟩,_⟩:=Oq h;have hd:w.drew.heap[r]?=_:=h;have cG:=RN v B i w.drew (hR.nil' ((ai.refl [] w).drew)) hc (by omega) hi hB;have QG:Hid (∀W,ai [] w.drew W->W.cell? ⟨r,0,none⟩=some v/\W.cell? ⟨r,1,none⟩=some (.int .i64 i)):=af fun W ho=>by
  obtain⟨⟨q0,q1,_,_⟩,_⟩:=Oq (ho.heap hd (by simp));exact⟨q0,q1⟩
 have kW:=QG.out w.drew (ai.refl _ _);unfold nE at cG;unfold tF;cases hv:nD B i with
 |none=>
  rw[hv]at cG;replace cG:=af cG;clear hv hR hc hB h hd;go_enter Tryz.func253,Tryz.ntmps253
  go_wp2_with fail
  go_region_held3(fun W=>W.cell? ⟨r,0,none⟩=some v/\W.cell? ⟨r,1,none⟩=some (.int .i64 i))
   (first|with_reducible exact kA|with_reducible exact kW|go_keep)
   ((first|(go_at_call 289;(with_reducible refine cG.out.mono ?_);rintro e w1 ⟨⟨ec,ay,rfl⟩,hO⟩;have kA:=QG.out _ hO)))
  have h1:(ec !=0)=true:=by simpa using ay
  change Hid _ at ay hO;go_wp2_with fail
  go_ret2
  exact⟨⟨ec,ay.out,rfl⟩,(ai.refl [] w).drew.trans hO.out⟩
 |some p=>
  obtain⟨x,j⟩:=p;rw[hv]at cG;obtain⟨_,hj,hx0,hx1⟩:=jX hB hi hv;change Hid _ at hd;replace cG:=af cG;clear hv hR hc hB h;go_enter Tryz.func253,Tryz.ntmps253
  go_wp2_with fail
  go_region_held3(fun W=>W.cell? ⟨r,0,none⟩=some v/\W.cell? ⟨r,1,none⟩=some (.int .i64 i))
   (first|with_reducible exact kA|with_reducible exact kW|go_keep)
   ((first|(go_at_call 289;(with_reducible refine cG.out.mono ?_);rintro e w1 ⟨rfl,hO⟩;have kA:=QG.out _ hO)))
  have h1:=hO.heap hd.out (by simp);obtain⟨⟨d0,d1,d2,d3⟩,hf⟩:=Oq h1;have f1:=hf 1;obtain⟨h2,hO2⟩:=AR j h1;have hO3:=af (((ai.refl [] w).drew.trans hO).nil.trans hO2);change Hid _ at h2;clear h1 hO2 hf;go_wp2_with fail
  go_ret2
  exact⟨rfl,h2.out,hO3.out⟩
def Ot(B:List Int)(i:Nat):Option (ByteArray×Nat):=(nD B i).bind fun p=>if(B.length:Int)-p.2<p.1 then none else some (strOfNums ((B.drop p.2).take p.1.toNat),p.2+p.1.toNat)
def AU(B:List Int)(r:Nat)(v:Value)(i:Nat)(op out:Value)(w:World)(e:Ending)(w':World):Prop:=
 match Ot B i with
 |some (s,j)=>e=.returned (.tuple #[.string s,.int .i64 0])/\w'.heap[r]?=some (.cells (eF v j op out) 339 (0,0))/\ai [r] w w'
 |none=>(∃ec:Int,ec≠0/\e=.returned (.tuple #[.string ⟨#[]⟩,.int .i64 ec]))/\ai [r] w w'
theorem Ki(r:Nat)(v op out:Value)(B:List Int)(i:Nat)(w:World)(h:w.heap[r]?=some (.cells (eF v i op out) 339 (0,0)))(hR:aA bL w v B)(hrb: ∀b,v.ownBlock=some b->b≠r)(hc:eB v)(hB:ol B)(hl:B.length<=4096)(hi:i<=B.length):
  Calls Tryz.prog 290 #[.pointer (some ⟨r,0,none⟩)] w (AU B r v i op out w):=by
 have cN:=sw r v op out B i w h hR hc hB hl hi;unfold tF at cN;unfold AU Ot;cases hv:nD B i with
 |none=>
  rw[hv]at cN;simp only[Option.bind_none];replace cN:=af cN;clear hv hR hc hB h hrb;go_enter Tryz.func290,Tryz.ntmps290
  go_wp2_with fail
  refine cN.out.mono ?_;rintro e w1 ⟨⟨ec,ay,rfl⟩,hO⟩;have h1:(ec !=0)=true:=by simpa using ay
  change Hid _ at ay;replace hO:=af hO;go_wp2_with fail
  go_ret2
  exact⟨⟨ec,ay.out,rfl⟩,hO.out.nil⟩
 |some p=>
  obtain⟨x,j⟩:=p;rw[hv]at cN;simp only[Option.bind_some];obtain⟨_,hj,hx0,hx1⟩:=jX hB hi hv;have hw1:IntKind.wrap .i64 ((B.length:Int)-j)=(B.length:Int)-j:=by rw[IntKind.wrap_i64];omega
  have hw2:IntKind.wrap .u64 ((B.length:Int)-j)=(B.length:Int)-j:=by rw[IntKind.wrap_u64];omega
  obtain⟨va,vc,hvf⟩:=hR.form;by_cases hsh:(B.length:Int)-j<x
  ·rw[if_pos hsh]
   replace cN:=af cN;clear hv hR hc hB h hrb;subst hvf;generalize B.length=N at*;go_enter Tryz.func290,Tryz.ntmps290
   go_wp2_with fail
   refine cN.out.mono ?_;rintro e w1 ⟨rfl,h1,hO⟩;obtain⟨⟨d0,d1,d2,d3⟩,hf⟩:=Oq h1;replace hO:=af hO;clear h1 hf;go_wp2_with fail
   go_quiet(fail)
   go_wp2_with fail
   go_ret2
   exact⟨⟨2,by decide,rfl⟩,hO.out.drewN _⟩
  ·rw[if_neg hsh]
   have hxn:x=(x.toNat:Int):=by omega
   generalize x.toNat=k at*;subst hxn;have hw3:IntKind.wrap .i64 ((k:Nat):Int)=(k:Int):=by rw[IntKind.wrap_i64];omega
   have hw4:IntKind.wrap .i64 ((j:Int)+k)=(j:Int)+k:=by rw[IntKind.wrap_i64];omega
   obtain⟨v1,hs,gu,hb1,_⟩:=hR.mid NZ hc (i:=j) (j:=j+k) (by omega) (by omega);rw[show j+k-j=k by omega]at gu;have hs': ∀W,(Instr.sliceAt 23 v (some (.int .i64 (j:Int))) (some (.int .i64 ((j:Int)+k))) none).run Tryz.prog W=.ok v1 W:=fun W=>by have:=hs W;rwa[show((j+k:Nat):Int)=(j:Int)+k by omega]at this
   have hcv:=af fun W (ho:ai [r] w W)=>xE (gu.own ho (fun b hb=>by simpa using hrb b (hb1 b hb)))
   replace cN:=af cN;clear hv hR hc hB h hrb hs gu hb1;subst hvf;generalize B.length=N at*;go_enter Tryz.func290,Tryz.ntmps290
   go_wp2_with fail
   refine cN.out.mono ?_;rintro e w1 ⟨rfl,h1,hO⟩;obtain⟨⟨d0,d1,d2,d3⟩,hf⟩:=Oq h1;have f1:=hf 1;change Hid _ at h1;replace hO:=af hO;clear hf;go_wp2_with fail
   go_quiet(fail)
   have hO3:=af fun q' q=>((hO.out.drewN q').setCell (p:=⟨r,1,none⟩) (.inl (by simp)) (.int .i64 ((j:Int)+k))).drewN q
   have h4:=af fun q'=>(AR (w:=w1.drewN q') (j+k) h1.out).1
   have hcq:=fun q' q=>hcv.out _ (hO3.out q' q)
   rw[show((j+k:Nat):Int)=(j:Int)+k by omega]at h4;go_wp2_with fail
   go_quiet(fail)
   go_wp2_with fail
   go_ret2
   exact⟨rfl,h4.out _,hO3.out _ _⟩
end Go.Proofs.YtedcakchekaemaaGreatDoor
