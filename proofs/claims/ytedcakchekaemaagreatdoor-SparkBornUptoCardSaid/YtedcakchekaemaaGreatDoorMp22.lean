/- Contracts of the program, part 22. -/
import Derived.Test.YtedcakchekaemaaGreatDoorMp19
import Derived.Test.YtedcakchekaemaaGreatDoorMp17
import Derived.Test.YtedcakchekaemaaGreatDoorMp20
set_option maxRecDepth 100000
set_option maxHeartbeats 16000000
set_option linter.all false
namespace Go.Proofs.YtedcakchekaemaaGreatDoor
open Go.RowKit
variable [Kd]
def Du(x:ByteArray):List Value:=[.string x]
def MG(x:Int):List Value:=[.int .u32 x]
theorem QY:(Tryz.prog.info? 9).map (fun i=>(i.zero,i.size,i.bytes))=some (some (.string ⟨#[]⟩),1,16):=by kernel_rfl
theorem V4:(Tryz.prog.info? 101).map (fun i=>(i.zero,i.size,i.bytes))=some (some (.int .u32 0),1,4):=by kernel_rfl
theorem Cy:jG Tryz.prog 26 9 Du 1 16 where
 ut:=Tryz.underlying26
 info:=by obtain⟨i,h1,h2,h3,h4⟩:=info_parts QY;exact⟨i,_,h1,h2,h3,h4,rfl⟩
 pos:=by omega
 len:=fun _=>rfl
 one x u hu:=by simp only[Du,List.mem_cons,List.not_mem_nil,or_false]at hu;subst hu;rfl
theorem V5:jG Tryz.prog 241 101 MG 1 4 where
 ut:=Tryz.underlying241
 info:=by obtain⟨i,h1,h2,h3,h4⟩:=info_parts V4;exact⟨i,_,h1,h2,h3,h4,rfl⟩
 pos:=by omega
 len:=fun _=>rfl
 one x u hu:=by simp only[MG,List.mem_cons,List.not_mem_nil,or_false]at hu;subst hu;rfl
def EQ(w:World):World:={w with heap:=#[]}
theorem jV(w:World):ai [] (EQ w) w:=⟨rfl,rfl,rfl,Nat.zero_le _,fun k hk=>absurd hk (by simp[EQ])⟩
theorem Sl.bare{α:Type}{enc:α->List Value}{k base:Nat}{T:TypeId}{w:World}{v:Value}{l:List α}(h:Sl T enc k base w v l):Sl T enc k (EQ w).heap.size w v l:=h.mono (Nat.zero_le _)
theorem Sl.up{α:Type}{enc:α->List Value}{k base b0:Nat}{T:TypeId}{w:World}{v:Value}{l:List α}(h:Sl T enc k b0 w v l)(hb: ∀g,v.ownBlock=some g->base<=g):Sl T enc k base w v l:=by
 obtain⟨h1,h2⟩:=h;refine⟨h1,?_⟩;rcases h2 with h2|⟨g,cap,cur,he,hg,h3⟩
 ·exact .inl h2
 ·exact .inr ⟨g,cap,cur,he,hb g (by rw[he];rfl),h3⟩
structure QZ (W0 w:World) (db:Nat) (cv tv:Value) (L:List ByteArray) (T:List Int):Prop where
 own:ai [db] W0 w
 row:w.heap[db]?=some (.cells #[cv,tv,.slice none 0 0] 244 (0,0))
 lt:db<W0.heap.size
 c:Sl 9 Du 1 W0.heap.size w cv L
 t:Sl 101 MG 1 W0.heap.size w tv T
 ap: ∀g,cv.ownBlock=some g->tv.ownBlock≠some g
section
variable {W0 w w' w1 : World} {db : Nat} {cv tv v' : Value} {L : List ByteArray} {T : List Int}
theorem QZ.nil'(h:QZ W0 w db cv tv L T)(ho:ai [] w w'):QZ W0 w' db cv tv L T:=
 ⟨h.own.trans ho.nil,ho.heap h.row (by simp),h.lt,h.c.nil' ho,h.t.nil' ho,h.ap⟩
theorem QZ.addC(h:QZ W0 w db cv tv L T){L':List ByteArray}(h1:Sl 9 Du 1 W0.heap.size w1 v' L')(h2:ai cv.ownBlock.toList w w1)(h3: ∀g,v'.ownBlock=some g->cv.ownBlock=some g\/w.heap.size<=g):
  (w1.cell? ⟨db,0,none⟩=some cv/\w1.frozen? ⟨db,0,none⟩=false)/\QZ W0 (w1.setCell ⟨db,0,none⟩ v') db v' tv L' T:=by
 have hd:db∉cv.ownBlock.toList:=fun hx=>by
  have:=(h.c.block (Option.mem_toList.1 hx)).1;have:=h.lt;omega
 have hb1:=h2.heap h.row hd;have hO2:ai [db] w1 (w1.setCell ⟨db,0,none⟩ v'):=(ai.refl _ _).setCell (.inl (by simp)) _;have hwl:=aj h.row;have hnd: ∀g,v'.ownBlock=some g->g≠db:=fun g hg e=>by
  have:=(h1.block hg).1;have:=h.lt;omega
 have htd: ∀g,tv.ownBlock=some g->g≠db:=fun g hg e=>by
  have:=(h.t.block hg).1;have:=h.lt;omega
 refine⟨⟨cell_of_row _ _ 0 _ _ _ hb1,frozen_of_row _ db 0 _ _ hb1⟩,(h.own.trans' h2 (fun x hx=>.inr (h.c.block (Option.mem_toList.1 hx)).1)).trans hO2,?_,h.lt,h1.own hO2 (fun b hb=>by simpa using hnd b hb),(h.t.own h2 (fun b hb hx=>h.ap b (Option.mem_toList.1 hx) hb)).own hO2 (fun b hb=>by simpa using htd b hb),fun g hg ht=>?_⟩
 ·have:=heap_setCell_same _ db 0 _ _ v' hb1
  simpa using this
 ·rcases h3 g hg with h4|h4
  ·exact h.ap g h4 ht
  ·have:=(h.t.block ht).2;omega
theorem QZ.addT(h:QZ W0 w db cv tv L T){T':List Int}(h1:Sl 101 MG 1 W0.heap.size w1 v' T')(h2:ai tv.ownBlock.toList w w1)(h3: ∀g,v'.ownBlock=some g->tv.ownBlock=some g\/w.heap.size<=g):
  (w1.cell? ⟨db,1,none⟩=some tv/\w1.frozen? ⟨db,1,none⟩=false)/\QZ W0 (w1.setCell ⟨db,1,none⟩ v') db cv v' L T':=by
 have hd:db∉tv.ownBlock.toList:=fun hx=>by
  have:=(h.t.block (Option.mem_toList.1 hx)).1;have:=h.lt;omega
 have hb1:=h2.heap h.row hd;have hO2:ai [db] w1 (w1.setCell ⟨db,1,none⟩ v'):=(ai.refl _ _).setCell (.inl (by simp)) _;have hwl:=aj h.row;have hnd: ∀g,v'.ownBlock=some g->g≠db:=fun g hg e=>by
  have:=(h1.block hg).1;have:=h.lt;omega
 have hcd: ∀g,cv.ownBlock=some g->g≠db:=fun g hg e=>by
  have:=(h.c.block hg).1;have:=h.lt;omega
 refine⟨⟨cell_of_row _ _ 1 _ _ _ hb1,frozen_of_row _ db 1 _ _ hb1⟩,(h.own.trans' h2 (fun x hx=>.inr (h.t.block (Option.mem_toList.1 hx)).1)).trans hO2,?_,h.lt,(h.c.own h2 (fun b hb hx=>h.ap b hb (Option.mem_toList.1 hx))).own hO2 (fun b hb=>by simpa using hcd b hb),h1.own hO2 (fun b hb=>by simpa using hnd b hb),fun g hg ht=>?_⟩
 ·have:=heap_setCell_same _ db 1 _ _ v' hb1
  simpa using this
 ·rcases h3 g ht with h4|h4
  ·exact h.ap g hg h4
  ·have:=(h.c.block hg).2;omega
end
structure Sh where
 a:Option Addr
 n:Nat
 c:Nat
def shL(x:Sh):List Value:=[.slice x.a x.n x.c]
theorem ZF:(Tryz.prog.info? 303).map (fun i=>(i.zero,i.size,i.bytes))=some (some (.slice none 0 0),1,24):=by kernel_rfl
theorem ZG:jG Tryz.prog 242 303 shL 1 24 where
 ut:=Tryz.underlying242
 info:=by obtain⟨i,h1,h2,h3,h4⟩:=info_parts ZF;exact⟨i,_,h1,h2,h3,h4,rfl⟩
 pos:=by omega
 len:=fun _=>rfl
 one x u hu:=by simp only[shL,List.mem_cons,List.not_mem_nil,or_false]at hu;subst hu;rfl
structure YO (W0 w:World) (db:Nat) (cv tv rv:Value) (L:List Sh):Prop where
 own:ai [db] W0 w
 row:w.heap[db]?=some (.cells #[cv,tv,rv] 244 (0,0))
 lt:db<W0.heap.size
 r:Sl 303 shL 1 W0.heap.size w rv L
section
variable {W0 w w' w1 : World} {db : Nat} {cv tv rv v' : Value} {L L' : List Sh}
theorem YO.nil'(h:YO W0 w db cv tv rv L)(ho:ai [] w w'):YO W0 w' db cv tv rv L:=⟨h.own.trans ho.nil,ho.heap h.row (by simp),h.lt,h.r.nil' ho⟩
theorem YO.addR(h:YO W0 w db cv tv rv L)(h1:Sl 303 shL 1 W0.heap.size w1 v' L')(h2:ai rv.ownBlock.toList w w1):
  (w1.cell? ⟨db,2,none⟩=some rv/\w1.frozen? ⟨db,2,none⟩=false)/\YO W0 (w1.setCell ⟨db,2,none⟩ v') db cv tv v' L':=by
 have hd:db∉rv.ownBlock.toList:=fun hx=>by
  have:=(h.r.block (Option.mem_toList.1 hx)).1;have:=h.lt;omega
 have hb1:=h2.heap h.row hd;have hO2:ai [db] w1 (w1.setCell ⟨db,2,none⟩ v'):=(ai.refl _ _).setCell (.inl (by simp)) _;have hnd: ∀g,v'.ownBlock=some g->g≠db:=fun g hg e=>by
  have:=(h1.block hg).1;have:=h.lt;omega
 refine⟨⟨cell_of_row _ _ 2 _ _ _ hb1,frozen_of_row _ db 2 _ _ hb1⟩,(h.own.trans' h2 (fun x hx=>.inr (h.r.block (Option.mem_toList.1 hx)).1)).trans hO2,?_,h.lt,h1.own hO2 (fun b hb=>by simpa using hnd b hb)⟩;have:=heap_setCell_same _ db 2 _ _ v' hb1;simpa using this
end
end Go.Proofs.YtedcakchekaemaaGreatDoor
namespace Go.Proofs.YtedcakchekaemaaGreatDoor
open Go.RowKit
variable [Kd]
def bW.pl(m:bW):PM:=⟨m.name,m.has,m.al,m.time,m.ty,m.hist,m.trans,m.null,⟨m.vk,m.vn,m.vs⟩⟩
theorem Bv{m n:bW}(h:m.pl=n.pl):m.name=n.name/\m.has=n.has/\m.al=n.al/\m.time=n.time/\m.ty=n.ty/\m.hist=n.hist/\m.trans=n.trans/\m.null=n.null/\m.vk=n.vk/\m.vn=n.vn/\m.vs=n.vs:=by
 unfold bW.pl at h;simp only[PM.mk.injEq,PV.mk.injEq]at h;exact h
theorem ZJ{m n:bW}(h:m.pl=n.pl):LY m=LY n:=by
 obtain⟨h1,h2,h3,_,h4,_,_,h5,h6,h7,h8⟩:=Bv h;unfold LY;rw[h1,h2,h3,h4,h5,h6,h7,h8]
theorem Ny(F:Int->ByteArray×Bool){m n:bW}(h:m.pl=n.pl):pQ F m=pQ F n:=by
 obtain⟨h1,h2,h3,_⟩:=Bv h;unfold pQ;rw[h1,h2,h3]
theorem Nz(x:bJ){m n:bW}(h:m.pl=n.pl):nR x m=nR x n:=by
 obtain⟨_,_,_,_,_,_,_,h5,h6,h7,h8⟩:=Bv h;unfold nR;rw[h5,h6,h7,h8]
theorem Bw: ∀(M N:List bW) (out:List bJ),M.map bW.pl=N.map bW.pl->jR M out=jR N out
 | [],[],_,_=>rfl
 | [],n::N,_,h=>by simp at h
 |m::M,[],_,h=>by simp at h
 |m::M,n::N,out,h=>by
  simp only[List.map_cons,List.cons.injEq]at h;obtain⟨h1,h2⟩:=h;unfold jR;rw[(Bv h1).1,ZJ h1,Bw M N _ h2]
theorem RY{M N:List bW}(h:M.map bW.pl=N.map bW.pl):dB M=dB N:=by
 have hl:M.length=N.length:=by simpa using congrArg List.length h
 unfold dB;rw[hl,Bw M N [] h]
theorem FI(F:Int->ByteArray×Bool): ∀(M N:List bW) (out:List bJ),M.map bW.pl=N.map bW.pl->fZ F M out=fZ F N out
 | [],[],_,_=>rfl
 | [],n::N,_,h=>by simp at h
 |m::M,[],_,h=>by simp at h
 |m::M,n::N,out,h=>by
  simp only[List.map_cons,List.cons.injEq]at h;obtain⟨h1,h2⟩:=h;unfold fZ;rw[Ny F h1];split
  ·split
   ·rw[Nz _ h1,FI F M N _ h2]
   ·rfl
  ·rfl
theorem YR: ∀(M N:List bW) (nm:ByteArray),M.map bW.pl=N.map bW.pl->(fK M nm).map bW.pl=(fK N nm).map bW.pl
 | [],[],_,_=>rfl
 | [],n::N,_,h=>by simp at h
 |m::M,[],_,h=>by simp at h
 |m::M,n::N,nm,h=>by
  simp only[List.map_cons,List.cons.injEq]at h;obtain⟨h1,h2⟩:=h;have ih:=YR M N nm h2;unfold fK at ih⊢;simp only[List.find?_cons,(Bv h1).1];split
  ·simp[h1]
  ·exact ih
structure Bz (p q:iI):Prop where
 h:p.h=q.h
 s:p.s=q.s
 M:p.M.map bW.pl=q.M.map bW.pl
theorem Bz.bd{p q:iI}(h:Bz p q):p.bd=q.bd:=by
 have e:=YR p.M q.M rz h.M;unfold iI.bd;cases h1:fK p.M rz with
 |none=>
  rw[h1]at e;cases h2:fK q.M rz with
  |none=>rfl
  |some n=>rw[h2]at e;simp at e
 |some m=>
  rw[h1]at e;cases h2:fK q.M rz with
  |none=>rw[h2]at e;simp at e
  |some n=>
   rw[h2]at e;simp only[Option.map_some,Option.some.injEq]at e;obtain⟨_,_,_,_,_,_,_,k1,k2,k3,_⟩:=Bv e;simp only[k1,k2,k3]
theorem Bz.seq{p q:iI}(h:Bz p q):p.seq=q.seq:=by unfold iI.seq;rw[h.h,h.s]
theorem RZ{p q:iI}(h:Bz p q)(s:EN)(k:Int)(dn:ByteArray):oQ s k dn p=oQ s k dn q:=by
 have h1:=h.bd;have h2:=h.seq;have h3:=RY h.M;have h4:=fun F out=>FI F p.M q.M out h.M
 unfold oQ pU qg vD kZ lg qf fG iU;simp only[h1,h2,h3,h4]
end Go.Proofs.YtedcakchekaemaaGreatDoor
namespace Go.Proofs.YtedcakchekaemaaGreatDoor
open Go.RowKit
theorem tL.sl{w:World}{v:Value}{ms:List Mk}(h:tL w v ms): ∃a cap,v=.slice a ms.length cap:=by
 obtain⟨_,⟨h1,h2⟩|⟨g,cap,cur,hv,_⟩⟩:=h.own
 ·exact⟨none,0,by rw[h1,h2]⟩
 ·exact⟨_,cap,hv⟩
theorem Ag{α:Type}(l:List α)(i:Nat)(h:i<l.length):(l[i]::l.eraseIdx i).Perm l:=by
 have h1:l=l.take i++l[i]::l.drop (i+1):=by
  rw[List.getElem_cons_drop,List.take_append_drop]
 rw[List.eraseIdx_eq_take_drop_succ]
 conv=>rhs;rw[h1]
 exact List.perm_middle.symm
theorem Ah{ms ms':List Mk}{i n:Nat}(hn:ms.length=n+1)(hi:i<n)(h:bF n (swp ms i n) ms'):ms'.dropLast.Perm (ms.eraseIdx i):=by
 have hl:ms'.length=n+1:=by rw[h.len,pJ,hn]
 have hne:ms'≠[]:=by intro e;rw[e]at hl;simp at hl
 have hx:ms'[n]?=ms[i]?:=by
  rw[h.2 n (Nat.le_refl _)];unfold swp;rw[List.getElem?_set_self (by simp;omega)];simp[List.getD,List.getElem?_eq_getElem (show i<ms.length by omega)]
 have hlast:ms'.getLast hne=ms[i]:=by
  rw[List.getLast_eq_getElem];have h1:ms'[n]?=some ms'[ms'.length-1]:=by
   have:ms'.length-1=n:=by omega
   simp only[this];exact List.getElem?_eq_getElem (by omega)
  rw[h1,List.getElem?_eq_getElem (by omega)]at hx;exact Option.some.inj hx
 have hp:ms'.Perm ms:=h.1.trans (yU ms i n (by omega) (by omega));have h1:(ms'.dropLast++[ms[i]]).Perm ms':=by rw[<-hlast,List.dropLast_concat_getLast hne]
 have h2:(ms[i]::ms.eraseIdx i).Perm ms:=Ag ms i (by omega);have h3:(ms[i]::ms'.dropLast).Perm (ms[i]::ms.eraseIdx i):=((List.perm_append_singleton _ _).symm.trans h1).trans (hp.trans h2.symm);exact List.Perm.cons_inv h3
theorem G7(rb:Nat)(gap:Int)(v:Value)(ms:List Mk)(i:Nat)(w:World)(h:bT w rb gap v ms)(hi:i<ms.length)(hl:ms.length<=1000):
  Calls Tryz.prog 175 #[.iface 286 (.pointer (some ⟨rb,1,none⟩)),.int .i64 i] w (Vs w rb gap v ms i):=by
 have c1:w.cell? ⟨rb,1,none⟩=some v:=cell_of_row w rb 1 _ _ _ h.row;have hm1:=fun n=>YL n _ v w c1
 obtain⟨n,hn⟩: ∃n,ms.length=n+1:=⟨ms.length-1,by omega⟩;obtain⟨a,cap,rfl⟩:=h.marks.sl;by_cases hin:i=n
 ·subst hin
  have hp:=fun k=>PX k ⟨rb,1,none⟩ w
  have P:=af (Kk rb gap _ ms w h (by omega) hl);have he:ms.dropLast=ms.eraseIdx i:=by
   rw[List.dropLast_eq_take,List.eraseIdx_eq_take_drop_succ,hn,List.drop_eq_nil_of_le (by omega)];simp
  change Hid _ at he;rw[hn]at P hm1 c1 hl hi⊢;clear h hn;go_enter Tryz.func175,Tryz.ntmps175
  go_wp2_with(first|(go_at_call 376;refine P.out.mono ?_;rintro e w2 ⟨v2,x,rfl,hR2,hv2,hO2⟩)|(go_at_call 372;go_in))
  go_ret
  exact⟨_,_,_,rfl,he.out▸hR2,List.Perm.refl _,hv2,hO2.mono (by simp)⟩
 ·have hil:i<n:=by omega
  have S:=rf _ ms i n w h.marks hi (by omega) hin;have hsp:=yU ms i n hi (by omega);have hsl:=pJ ms i n;rw[hn]at hsl;have hms:=fun k=>yT k _ _ w c1
  have hnb:((n:Int)!=i)=true:=by simp;omega
  have U: ∀w2,bT w2 rb gap (.slice a ms.length cap) (swp ms i n)->_:=fun w2 h2=>P5 rb gap _ (swp ms i n) i n w2 h2 hil (by omega) (by omega)
  have V: ∀w2 Ab,bT w2 rb gap (.slice a ms.length cap) Ab->Ab.length=n+1->_:=fun w2 Ab h2 hl2=>PY rb gap _ Ab i w2 h2 (by omega) (by omega)
  have P: ∀w2 Ab,bT w2 rb gap (.slice a ms.length cap) Ab->Ab.length=n+1->_:=fun w2 Ab h2 hl2=>Kk rb gap _ Ab w2 h2 (by omega) (by omega)
  have hfin:=fun Ab h2=>Ah (ms:=ms) (ms':=Ab) hn hil h2
  rw[hn]at S U V P h hm1 hms c1 hl hi⊢;change Hid _ at U V h hn hfin;replace S:=af S;replace P:=af P;go_enter Tryz.func175,Tryz.ntmps175
  go_wp2_with(first|(go_at_call 372;go_in))
  refine S.out.mono ?_;rintro e w2 ⟨rfl,hM2,hO2⟩;have hR2:=h.out.withMarks hM2 hsp hO2;have D:=af (U.out w2 hR2);clear S hM2 hm1 hms;go_wp2_with fail
  refine D.out.mono ?_;rintro e w3 ⟨q,Uu,rfl,fB,uh,hO3⟩;have hl3:Uu.length=n+1:=by rw[uh.len,hsl]
  cases q
  ·have U2:=af (V.out w3 Uu fB hl3)
   change Hid _ at fB hl3;go_wp2_with fail
   refine U2.out.mono ?_;rintro e w4 ⟨ms4,rfl,qA,JS,hO4⟩;have hl4:ms4.length=n+1:=by rw[JS.len,hl3.out]
   have P4:=af (P.out w4 ms4 qA hl4);have hp:=fun k=>PX k ⟨rb,1,none⟩ w4
   change Hid _ at qA hl4;go_wp2_with fail
   refine P4.out.mono ?_;rintro e w5 ⟨v5,x5,rfl,pF,hv5,aF⟩;go_wp2_with fail
   go_ret
   exact⟨_,_,_,rfl,pF,hfin.out _ (uh.trans (JS.mono (by omega))),hv5,(((hO2.trans hO3).trans hO4).mono (fun x hx=>List.mem_cons_of_mem _ hx)).trans (aF.mono (by simp))⟩
  ·have P4:=af (P.out w3 Uu fB hl3)
   have hp:=fun k=>PX k ⟨rb,1,none⟩ w3
   change Hid _ at fB hl3;go_wp2_with fail
   refine P4.out.mono ?_;rintro e w5 ⟨v5,x5,rfl,pF,hv5,aF⟩;go_wp2_with fail
   go_ret
   exact⟨_,_,_,rfl,pF,hfin.out _ uh,hv5,((hO2.trans hO3).mono (fun x hx=>List.mem_cons_of_mem _ hx)).trans (aF.mono (by simp))⟩
end Go.Proofs.YtedcakchekaemaaGreatDoor
namespace Go.Proofs.YtedcakchekaemaaGreatDoor
open Go.RowKit
variable [Kd]
def Fx(ok:Bool)(w:World)(e:Ending)(w':World):Prop:=
 match ok with
 |true=>(∃a1 n1 c1 a2 n2 c2 a3 n3 c3,e=.returned (.tuple #[.agg #[.slice a1 n1 c1,.slice a2 n2 c2,.slice a3 n3 c3],.int .i64 0]))/\ai [] w w'
 |false=>(∃ec:Int,ec≠0/\e=.returned (.tuple #[.agg #[.slice none 0 0,.slice none 0 0,.slice none 0 0],.int .i64 ec]))/\ai [] w w'
theorem zJ{ok:Bool}{w w':World}{ec:Int}(h:ok=false)(aD:ec≠0)(ho:ai [] w w'):Fx ok w (.returned (.tuple #[.agg #[.slice none 0 0,.slice none 0 0,.slice none 0 0],.int .i64 ec])) w':=by subst h;exact⟨⟨ec,aD,rfl⟩,ho⟩
theorem Wn(B:List Int):Ak B=match uH B with
 |none=>false
 |some l=>wQ l&&(bA l 4).all (fun f=>pW (bA l 2).length (ak f.text)):=rfl
theorem RG(s:ByteArray)(w:World)(hs:s.size<=4096)(hK:aS w): ∃w1 c,(convert 9 23 (.string s)).run Tryz.prog w=.ok (.slice (some ⟨w.heap.size,0,none⟩) s.size c) w1/\ai [] w w1/\
  Calls Tryz.prog 392 #[.slice (some ⟨w.heap.size,0,none⟩) s.size c] w1 (Fx (Ak (ak s)) w):=by
 obtain⟨w0,c,h1,hR,hcp,iE,hsz0⟩:=oJ s w;refine⟨w0,c,h1,iE,?_⟩;clear h1;obtain⟨ok,hok⟩: ∃ok,Ak (ak s)=ok:=⟨_,rfl⟩;rw[hok];rw[Wn]at hok;have hA:=(ai.refl [] w0).alloc (.cells #[.slice none 0 0,.slice none 0 0,.slice none 0 0] 244);have gL:=heap_alloc_new w0 (.cells #[.slice none 0 0,.slice none 0 0,.slice none 0 0] 244);have cW:=af (vI _ _ _ (hR.nil' hA) (fun b hb=>by simp[Value.ownBlock]at hb;simp;omega) hcp (bU s) (by rw[dX];omega));have um:=iE.trans hA;have adl:w.heap.size<=w0.heap.size:=iE.size;have Lb:=af hK;clear hR hcp hsz0 hK;go_enter Tryz.func392,Tryz.ntmps392
 go_wp2_with fail
 refine cW.out.mono ?_;intro e w2 hp;clear cW;generalize hrb:w0.heap.size=rb at*;change Hid _ at hrb;cases hw:uH (ak s)with
 |none=>
  rw[hw]at hp hok;simp only at hok;obtain⟨⟨ec,aD,rfl⟩,hO2⟩:=hp;have aK:=af hok.symm;have hO3:=um.trans hO2;have dF:=hO2.heap gL (by simp;try omega);obtain⟨⟨r0,r1,r2⟩,y0,y1,y2,_⟩:=q3 dF;obtain⟨hs3,aO⟩:=jJ dF (.slice none 0 0) (.slice none 0 0) (.slice none 0 0);change Hid _ at hs3;replace aO:=af (hO3.trans' aO (fun x hx=>.inr (by simp at hx;omega)));have q:(ec !=0)=true:=by simpa using aD
  change Hid _ at aD;clear hA um iE hO2 gL dF hO3 hok;go_wp2_with fail
  obtain⟨⟨g0,g1,g2⟩,_⟩:=q3 hs3.out;exact bodyPost_ret (v:=.tuple #[.agg #[.slice none 0 0,.slice none 0 0,.slice none 0 0],.int .i64 ec]) (by simp[results,Tryz.results392,go_sem,g0,g1,g2];try rfl) rfl (zJ aK.out aD.out aO.out)
 |some l=>
  rw[hw]at hp hok;simp only at hok;obtain⟨⟨aY,rfl,hS⟩,hO2⟩:=hp;have hO3:=um.trans hO2;have dF:=hO2.heap gL (by simp;try omega);obtain⟨hl,hf⟩:=nS (bU s) hw;have cS:=af (Iw aY l w2 (hS.reads eT) hl);obtain⟨va,vc,rfl⟩:=hS.sl;have hfR:=af (fun f hf'=>((vJ hf 4) f hf').t);have hfT:=af (fun f hf'=>((vJ hf 3) f hf'));clear hw hS hA um gL iE;go_wp2_with fail
  refine cS.out.mono ?_;intro e w3 hp;clear cS;cases hd:wQ l with
  |false=>
   rw[hd]at hp hok;simp only[Bool.false_and]at hok;obtain⟨⟨ec,aD,rfl⟩,hO4⟩:=hp;have aK:=af hok.symm;have hAs:=(ai.refl [] w3).alloc (.cells #[.slice none 0 0,.slice none 0 0,.slice none 0 0] 544);have aF:=(hO3.trans hO4).trans hAs;have OV:=hAs.heap (hO4.heap dF (by simp)) (by simp);have q:(ec !=0)=true:=by simpa using aD
   change Hid _ at aD;clear hO2 dF hO3 hok hO4 hAs hfR hfT hd;go_upto_region 5 with(fail)
   generalize(w3.alloc (.cells #[.slice none 0 0,.slice none 0 0,.slice none 0 0] 544))=w4 at*;generalize w3.heap.size=sb at*;obtain⟨⟨r0,r1,r2⟩,y0,y1,y2,_⟩:=q3 OV;obtain⟨hs3,aO⟩:=jJ OV (.slice none 0 0) (.slice none 0 0) (.slice none 0 0);change Hid _ at hs3;replace aO:=af (aF.trans' aO (fun x hx=>.inr (by simp at hx;omega)));clear aF OV;go_wp2_with fail
   obtain⟨⟨g0,g1,g2⟩,_⟩:=q3 hs3.out;exact bodyPost_ret (v:=.tuple #[.agg #[.slice none 0 0,.slice none 0 0,.slice none 0 0],.int .i64 ec]) (by simp[results,Tryz.results392,go_sem,g0,g1,g2];try rfl) rfl (zJ aK.out aD.out aO.out)
  |true=>
   rw[hd]at hp hok;simp only[Bool.true_and]at hok;obtain⟨⟨a1,x1,a2,x2,a3,x3,rfl,gU,hR2,fB⟩,hO4⟩:=hp;have Pm:(bA l 2).length=(bA l 3).length/\(bA l 2).length<=16/\(bA l 4).length<=32:=by
    unfold wQ at hd;simp only[Bool.and_eq_true,decide_eq_true_eq]at hd;exact⟨hd.1.2,hd.1.1.1.1.2,hd.1.1.2⟩
   obtain⟨Pm,X9,X8⟩:=Pm;generalize bA l 2=N at*;generalize bA l 3=T at*;generalize bA l 4=Rw at*;have hAs:=((ai.refl [] w3).alloc (.cells #[.slice a1 N.length x1,.slice a2 T.length x2,.slice a3 Rw.length x3] 544)).alloc (.cells #[.slice none 0 0,.slice none 0 0,.slice none 0 0] 244);have aF:=(hO3.trans hO4).trans hAs;have OV:=hAs.heap (hO4.heap dF (by simp)) (by simp);have hsb:=((ai.refl [] _).alloc (.cells #[.slice none 0 0,.slice none 0 0,.slice none 0 0] 244)).heap (heap_alloc_new w3 (.cells #[.slice a1 N.length x1,.slice a2 T.length x2,.slice a3 Rw.length x3] 544)) (by simp);have hdb:=heap_alloc2_new w3 (.cells #[.slice a1 N.length x1,.slice a2 T.length x2,.slice a3 Rw.length x3] 544) (.cells #[.slice none 0 0,.slice none 0 0,.slice none 0 0] 244);have hrl:rb<w3.heap.size:=Nat.lt_of_lt_of_le (aj dF) hO4.size;have hJ0:QZ ((w3.alloc (.cells #[.slice a1 N.length x1,.slice a2 T.length x2,.slice a3 Rw.length x3] 544)).alloc (.cells #[.slice none 0 0,.slice none 0 0,.slice none 0 0] 244)) ((w3.alloc (.cells #[.slice a1 N.length x1,.slice a2 T.length x2,.slice a3 Rw.length x3] 544)).alloc (.cells #[.slice none 0 0,.slice none 0 0,.slice none 0 0] 244)) (w3.heap.size+1) (.slice none 0 0) (.slice none 0 0) [] []:=
    ⟨ai.refl _ _,hdb,aj hdb,Sl.nil _ _ _,Sl.nil _ _ _,fun g hg=>by cases hg⟩
   have Yp: ∀(a:Option Addr) (x:Nat) (M:List bN) (k:Nat) (hk:k<M.length),aG fL w3 (.slice a M.length x) M-> ∃b o,a=some ⟨b,o,none⟩/\ ∀W,ai [w3.heap.size+1] ((w3.alloc (.cells #[.slice a1 N.length x1,.slice a2 T.length x2,.slice a3 Rw.length x3] 544)).alloc (.cells #[.slice none 0 0,.slice none 0 0,.slice none 0 0] 244)) W->W.cell? ⟨b,o+k*4+2,none⟩=some (.int .u64 M[k].val)/\W.cell? ⟨b,o+k*4+3,none⟩=some (.string M[k].text):=by
    intro a x M k hk hR;obtain⟨b,o,rfl,_,_,c2,c3⟩:=hR.fld hk;have hbl:=block_lt_of_cell c3;simp only at hbl;refine⟨b,o,rfl,fun W ho=>?_⟩;have ho2:ai [w3.heap.size+1] w3 W:=hAs.nil.trans ho;exact⟨(ho2.cell (p:=⟨b,_,none⟩) hbl (by simp;omega)).trans c2,(ho2.cell (p:=⟨b,_,none⟩) hbl (by simp;omega)).trans c3⟩
   have hf1:=af (fun k hk=>Yp a1 x1 N k hk gU);have hf2:=af (fun k hk=>Yp a2 x2 T k hk hR2);have hf3:=af (fun k hk=>Yp a3 x3 Rw k hk fB);change Hid _ at hok Pm hf;clear hO2 dF hO3 hO4 hAs hd gU hR2 fB Yp hf hdb;go_upto_region 8 with(fail)
   generalize((w3.alloc (.cells #[.slice a1 N.length x1,.slice a2 T.length x2,.slice a3 Rw.length x3] 544)).alloc (.cells #[.slice none 0 0,.slice none 0 0,.slice none 0 0] 244))=W0 at*;generalize w3.heap.size=sb at*;obtain⟨db,hdb⟩: ∃db,db=sb+1:=⟨_,rfl⟩;rw[<-hdb]at hJ0 hf1 hf2 hf3⊢;have hsd:sb≠db:=by omega
   have hrd:rb≠db:=by omega
   have hwd:w.heap.size<=db:=by omega
   change Hid _ at hdb;obtain⟨⟨s0,s1,s2⟩,-⟩:=q3 hsb;have hSb:Hid (∀W,ai [db] W0 W->(W.cell? ⟨sb,0,none⟩=some (.slice a1 N.length x1)/\W.cell? ⟨sb,1,none⟩=some (.slice a2 T.length x2)/\W.cell? ⟨sb,2,none⟩=some (.slice a3 Rw.length x3))/\W.heap[rb]?=some (.cells #[.slice none 0 0,.slice none 0 0,.slice none 0 0] 244 (0,0))):=af fun W ho=>
    ⟨(q3 (ho.heap hsb (by simpa using hsd))).1,ho.heap OV (by simpa using hrd)⟩
   change Hid _ at hJ0 aF;clear OV hsb;go_wp2_with fail
   clear s0 s1 s2;go_loopg[33] N.length (fun g s33 wr=> ∃(k:Nat) (cv tv:Value) (L:List ByteArray) (TT:List Int),k<=N.length/\g=N.length-k/\s33=.int .i64 k/\Aside (QZ W0 wr db cv tv L TT/\L.length=k/\TT.length=k))
   case atStart=>exact⟨0,_,_,[],[],by omega,by omega,rfl,hJ0.out,rfl,rfl⟩
   case round=>
    obtain⟨k,cv,tv,L,TT,hk,rfl,rfl,hJ,hLk,J6⟩:=hrel;have k0:(0:Int)<=k:=by omega
    by_cases hlt:k<N.length
    ·have k1:(k:Int)<N.length:=by omega
     have hwk:IntKind.i64.wrap ((k:Int)+1)=(k:Int)+1:=IntWalk.i64_in _ (by omega);have afV:k<T.length:=by rw[<-Pm.out];exact hlt
     have k1T:(k:Int)<T.length:=by omega
     obtain⟨b1,o1,rfl,hc1⟩:=hf1.out k hlt;obtain⟨b2,o2,rfl,hc2⟩:=hf2.out k afV;obtain⟨ca,cc,rfl⟩:=hJ.c.sl;obtain⟨ta,tc,rfl⟩:=hJ.t.sl;generalize N[k].text=x at*;generalize T[k].val=y at*;have hl1:=af (show(L.length+[x].length)*16<=140737488355328 by simp only[List.length_singleton];omega);have hl2:=af (show L.length+[x].length<=maxLen by unfold maxLen;simp only[List.length_singleton];omega);have hl3:=af (show(L++[x]).length=L.length+1 by simp);change Hid _ at hLk J6 hc1 hc2;replace hJ:=af hJ;go_wp2_with fail
     have hD:=hJ.out.nil' ((ai.refl [] wr).drew);have hA:=hJ.out.nil' (((ai.refl [] wr).alloc (.cells #[.string x] 9)).drew);obtain⟨⟨p0,p1,p2⟩,-⟩:=q3 hD.row;obtain⟨⟨q0,q1,q2⟩,-⟩:=q3 hA.row;obtain⟨⟨s0,s1,s2⟩,_⟩:=hSb.out _ hD.own;obtain⟨⟨t0,t1,t2⟩,_⟩:=hSb.out _ hA.own;obtain⟨_,n0⟩:=hc1.out _ hD.own;obtain⟨_,n1⟩:=hc1.out _ hA.own;have mR:=af ((aG.new (enc:=Du) (T:=9) wr x 1).nil' ((ai.refl [] _).drew));replace hA:=af hA;simp only[Du]at mR;clear hD;go_region_law((go_loud(refine eX rfl (.tmp 37) (.tmp 44) (by rfl) Cy (jV _) (by rfl) hA.out.c.bare (by rfl) mR.out hl1.out hl2.out ?_);intro va w5 hS5 hqq hg5 iD;obtain⟨a5,c5,rfl⟩:=hS5.sl;rw[hl3.out]at hS5 hg5⊢;obtain⟨⟨kC,f5⟩,mO⟩:=hA.out.addC (hS5.up (fun g hg=>by rcases hg5 g hg with h4|h4;exact(hA.out.c.block h4).1;exact Nat.le_trans hA.out.own.size h4)) iD hg5;replace mO:=af mO;clear hS5 hg5 iD hqq))
     all_goals
      clear p0 p1 p2 q0 q1 q2 s0 s1 s2 t0 t1 t2 n0 n1 kC f5 mR hA hl1 hl2 hl3;generalize(w5.setCell ⟨db,0,none⟩ (.slice a5 (L.length+1) c5))=w6 at*;have hl1:=af (show(TT.length+[IntKind.u32.wrap y].length)*4<=140737488355328 by have:=J6.out;simp only[List.length_singleton];omega);have hl2:=af (show TT.length+[IntKind.u32.wrap y].length<=maxLen by have:=J6.out;unfold maxLen;simp only[List.length_singleton];omega);have hl3:=af (show(TT++[IntKind.u32.wrap y]).length=TT.length+1 by simp);go_upto_region 12 with(fail)
      have hD:=mO.out.nil' ((ai.refl [] w6).drew);have hA:=mO.out.nil' (((ai.refl [] w6).alloc (.cells #[.int .u32 (IntKind.u32.wrap y)] 101)).drew);obtain⟨⟨p0,p1,p2⟩,-⟩:=q3 hD.row;obtain⟨⟨q0,q1,q2⟩,-⟩:=q3 hA.row;obtain⟨⟨s0,s1,s2⟩,_⟩:=hSb.out _ hD.own;obtain⟨⟨t0,t1,t2⟩,_⟩:=hSb.out _ hA.own;obtain⟨n0,_⟩:=hc2.out _ hD.own;obtain⟨n1,_⟩:=hc2.out _ hA.own;have mR:=af ((aG.new (enc:=MG) (T:=101) w6 (IntKind.u32.wrap y) 1).nil' ((ai.refl [] _).drew));replace hA:=af hA;simp only[MG]at mR;clear hD;go_region_law((go_loud(refine eX rfl (.tmp 48) (.tmp 56) (by rfl) V5 (jV _) (by rfl) hA.out.t.bare (by rfl) mR.out hl1.out hl2.out ?_);intro va7 w7 Po hqq hg7 hX7;obtain⟨a7,c7',rfl⟩:=Po.sl;rw[hl3.out]at Po hg7⊢;obtain⟨⟨kC,f5⟩,hJ7⟩:=hA.out.addT (Po.up (fun g hg=>by rcases hg7 g hg with h4|h4;exact(hA.out.t.block h4).1;exact Nat.le_trans hA.out.own.size h4)) hX7 hg7;replace hJ7:=af hJ7;clear Po hg7 hX7 hqq))
      all_goals
       clear p0 p1 p2 q0 q1 q2 s0 s1 s2 t0 t1 t2 n0 n1 kC f5 mR hA hl1 hl2 hl3;go_wp2_with fail
       go_roundg(N.length-(k+1))
       case measure=>omega
       case rel=>exact⟨k+1,_,_,L++[x],TT++[IntKind.u32.wrap y],by omega,rfl,by simp,by have hh:=hJ7.out;exact hh,by simp[hLk.out],by simp[J6.out]⟩
    ·have k1: ¬(k:Int)<N.length:=by omega
     obtain⟨ca,cc,rfl⟩:=hJ.c.sl;obtain⟨ta,tc,rfl⟩:=hJ.t.sl;have Pk:YO W0 wr db (.slice ca L.length cc) (.slice ta TT.length tc) (.slice none 0 0) []:=⟨hJ.own,hJ.row,hJ.lt,Sl.nil _ _ _⟩;obtain⟨⟨s0,s1,s2⟩,_⟩:=hSb.out _ hJ.own;change Hid _ at Pk;generalize L.length=nL at*;generalize TT.length=nT at*;clear hJ0 hJ hLk J6 hf1 hf2;go_wp2_with fail
     clear s0 s1 s2;go_loopg[63] Rw.length (fun g s63 wr=> ∃(m:Nat) (rv:Value) (M:List Sh),m<=Rw.length/\g=Rw.length-m/\s63=.int .i64 m/\Aside (YO W0 wr db (.slice ca nL cc) (.slice ta nT tc) rv M/\M.length=m/\(Rw.take m).all (fun f=>pW N.length (ak f.text))=true))
     case atStart=>exact⟨0,_,[],by omega,by omega,rfl,Pk.out,rfl,by simp⟩
     case round=>
      obtain⟨m,rv,M,hm,rfl,rfl,hJ,hMl,hgood⟩:=hrel;have m0:(0:Int)<=m:=by omega
      obtain⟨ra,rc,rfl⟩:=hJ.r.sl;by_cases hlt2:m<Rw.length
      ·have m1:(m:Int)<Rw.length:=by omega
       have hwm:IntKind.i64.wrap ((m:Int)+1)=(m:Int)+1:=IntWalk.i64_in _ (by omega);obtain⟨b3,o3,rfl,hc3⟩:=hf3.out m hlt2;have hsz:=hfR.out Rw[m] (List.getElem_mem hlt2);have hnext:pW N.length (ak Rw[m].text)=true->(Rw.take (m+1)).all (fun f=>pW N.length (ak f.text))=true:=fun hh=>by
        rw[List.take_succ_eq_append_getElem hlt2,List.all_append,hgood];simp[hh]
       have hbad:pW N.length (ak Rw[m].text)=false->ok=false:=fun hh=>by
        rw[<-hok.out,List.all_eq_false];exact⟨Rw[m],List.getElem_mem hlt2,by simp[hh]⟩
       generalize Rw[m].text=t at*;have dK:=aF.out.trans' hJ.own (fun y hy=>.inr (by simp at hy;omega));have hwr:w.heap.size<=wr.heap.size:=dK.size;have hrq:rb<wr.heap.size:=aj (hSb.out _ hJ.own).2;have cR:=IC t N.length wr.drew hsz X9 (Lb.out.own dK.drew);have hcell:Hid (∀W,ai [] wr W->W.cell? ⟨sb,0,none⟩=some (.slice a1 N.length x1)/\W.cell? ⟨sb,2,none⟩=some (.slice (some ⟨b3,o3,none⟩) Rw.length x3)/\W.cell? ⟨b3,o3+m*4+3,none⟩=some (.string t)):=af fun W ho=>
        ⟨(hSb.out W (hJ.own.trans ho.nil)).1.1,(hSb.out W (hJ.own.trans ho.nil)).1.2.2,(hc3 W (hJ.own.trans ho.nil)).2⟩
       have kW:=hcell.out wr.drew (ai.refl [] wr).drew;change Hid _ at hMl;replace hJ:=af hJ;cases hr:pW N.length (ak t)with
       |false=>
        rw[hr]at cR;have aK:=af (hbad hr);replace cR:=af cR;clear hnext hbad hgood hr hc3;go_wp2_with fail
        go_region_held3(fun W=>W.cell? ⟨sb,0,none⟩=some (.slice a1 N.length x1)/\W.cell? ⟨sb,2,none⟩=some (.slice (some ⟨b3,o3,none⟩) Rw.length x3)/\W.cell? ⟨b3,o3+m*4+3,none⟩=some (.string t)) (first|with_reducible exact kA|with_reducible exact kW|go_keep) ((go_at_call 402;(with_reducible refine cR.out.mono ?_);rintro e w5 ⟨⟨ec,aD,rfl⟩,gY⟩;have kA:=hcell.out _ ((ai.refl [] wr).drew.trans gY)))
        have bI:=dK.trans ((ai.refl [] wr).drew.trans gY);have J7:=(hSb.out _ (hJ.out.own.trans ((ai.refl [] wr).drew.trans gY).nil)).2;clear kA kW hcell cR gY hJ dK;obtain⟨⟨z0,z1,z2⟩,y0,y1,y2,_⟩:=q3 J7;obtain⟨hs3,aO⟩:=jJ J7 (.slice none 0 0) (.slice none 0 0) (.slice none 0 0);change Hid _ at hs3;replace aO:=af (bI.trans' aO (fun x hx=>.inr (by simp at hx;omega)));have q:(ec !=0)=true:=by simpa using aD
        change Hid _ at aD;clear bI J7;go_wp2_with fail
        obtain⟨⟨g0,g1,g2⟩,_⟩:=q3 hs3.out;exact bodyPost_ret (v:=.tuple #[.agg #[.slice none 0 0,.slice none 0 0,.slice none 0 0],.int .i64 ec]) (by simp[results,Tryz.results392,go_sem,g0,g1,g2];try rfl) rfl (zJ aK.out aD.out aO.out)
       |true=>
        rw[hr]at cR;have hg:=af (hnext hr);have afY:M.length<=31:=by have:=hMl.out;omega
        have hl1:=af (show(M.length+1)*24<=140737488355328 by omega);have hl2:=af (show M.length+1<=maxLen by unfold maxLen;omega);replace cR:=af cR;clear hnext hbad hgood hr hc3 afY;go_wp2_with fail
        go_region_held3(fun W=>W.cell? ⟨sb,0,none⟩=some (.slice a1 N.length x1)/\W.cell? ⟨sb,2,none⟩=some (.slice (some ⟨b3,o3,none⟩) Rw.length x3)/\W.cell? ⟨b3,o3+m*4+3,none⟩=some (.string t)) (first|with_reducible exact kA|with_reducible exact kW|go_keep) ((go_at_call 402;(with_reducible refine cR.out.mono ?_);rintro e w5 ⟨⟨pa,pn,pc,rfl⟩,gY⟩;have kA:=hcell.out _ ((ai.refl [] wr).drew.trans gY)))
        have mO:=hJ.out.nil' ((ai.refl [] wr).drew.trans gY);obtain⟨⟨z0,z1,z2⟩,-⟩:=q3 mO.row;have hJ8:=af (mO.nil' ((ai.refl [] w5).alloc (.cells #[.slice pa pn pc] 303)));have hRb:=af (aG.new (enc:=shL) (T:=303) w5 ⟨pa,pn,pc⟩ 1);clear kA kW hcell cR gY hJ dK mO;go_wp2_with(at_builtin;refine aT rfl (.tmp 84) (.tmp 86) rfl ZG (jV _) rfl hJ8.out.r.bare rfl hRb.out (by have hq:=hl1.out;simp only[List.length_singleton];exact hq) (by have hq:=hl2.out;simp only[List.length_singleton];exact hq) ?_;intro va9 w9 yB _ _ hg9 hX9;obtain⟨aa,ca9,rfl⟩:=yB.sl;obtain⟨⟨kC,f5⟩,hJ9⟩:=hJ8.out.addR (yB.up (fun g hg=>by rcases hg9 g hg with h4|h4;exact(hJ8.out.r.block h4).1;exact Nat.le_trans hJ8.out.own.size h4)) hX9;replace hJ9:=af hJ9;clear yB hg9 hX9)
        go_roundg(Rw.length-(m+1))
        case measure=>omega
        case rel=>exact⟨m+1,_,M++[⟨pa,pn,pc⟩],by omega,rfl,by simp,by have hh:=hJ9.out;rw[List.length_append]at hh;exact hh,by simp[hMl.out],hg.out⟩
      ·have m1: ¬(m:Int)<Rw.length:=by omega
       rw[List.take_of_length_le (by omega)]at hgood;have jF:ok=true:=by rw[<-hok.out];exact hgood
       change Hid _ at jF;have dK:=aF.out.trans' hJ.own (fun y hy=>.inr (by simp at hy;omega));have J7:=(hSb.out _ hJ.own).2;obtain⟨⟨z0,z1,z2⟩,-⟩:=q3 hJ.row;obtain⟨⟨r0,r1,r2⟩,y0,y1,y2,_⟩:=q3 J7;obtain⟨hs3,aO⟩:=jJ J7 (.slice ca nL cc) (.slice ta nT tc) (.slice ra M.length rc);change Hid _ at hs3;replace aO:=af (dK.trans' aO (fun x hx=>.inr (by simp at hx;omega)));clear hgood hJ hMl J7 dK;generalize M.length=nM at*;go_wp2_with fail
       obtain⟨⟨g0,g1,g2⟩,_⟩:=q3 hs3.out;exact bodyPost_ret (v:=.tuple #[.agg #[.slice ca nL cc,.slice ta nT tc,.slice ra nM rc],.int .i64 0]) (by simp[results,Tryz.results392,go_sem,g0,g1,g2];try rfl) rfl (by rw[jF.out];exact⟨⟨_,_,_,_,_,_,_,_,_,rfl⟩,aO.out⟩)
end Go.Proofs.YtedcakchekaemaaGreatDoor
