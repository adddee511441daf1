/- Contracts of the program, part 9. -/
import Derived.Test.YtedcakchekaemaaGreatDoorMp05
import Derived.Test.YtedcakchekaemaaGreatDoorMp06
set_option maxRecDepth 100000
set_option maxHeartbeats 16000000
set_option linter.all false
namespace Go.Proofs.YtedcakchekaemaaGreatDoor
open Go.RowKit
def lD(r:Int×List bJ)(w:World)(e:Ending)(w':World):Prop:=
 ∃a cap,e=.returned (.tuple #[.slice a r.2.length cap,.int .i64 r.1])/\aM w.heap.size w' a cap r.2/\ai [] w w'
theorem Ba(a:Option Addr)(M:List bW)(cap:Nat)(w:World)(h:eF w a M)(hE:jP w):
  Calls Tryz.prog 260 #[.slice a M.length cap] w (lD (dB M) w):=by
 have B:=Qb a M cap w h;generalize dB M=r at B⊢;unfold Em at B;replace B:=af B;replace hE:=af hE;go_enter Tryz.func260,Tryz.ntmps260
 go_wp2_with fail
 refine B.out.mono ?_;rintro e w2 ⟨a2,cap2,er,rfl,hR,hO,hor⟩;have hE2:=hE.out.nil hO;replace hR:=af hR;replace hO:=af hO;rcases hor with⟨h1,rfl⟩|⟨q,rfl,hq⟩
 ·replace h1:=af h1
  go_wp2_with fail
  refine(Eh _).mono ?_;rintro e w3 ⟨rfl,hO2⟩;change Hid _ at hO2;go_wp2_with fail
  go_ret2
  exact⟨a2,cap2,by rw[h1.out];rfl,hR.out.nil' hO2.out,hO.out.trans hO2.out⟩
 ·have C:=Ei q r.1 w2 hE2 hq
  replace C:=af C;clear hE2 hq;go_wp2_with fail
  refine C.out.mono ?_;rintro e w3 ⟨rfl,hO2⟩;change Hid _ at hO2;go_wp2_with fail
  go_ret2
  exact⟨a2,cap2,rfl,hR.out.nil' hO2.out,hO.out.trans hO2.out⟩
theorem Qe(b o j:Nat):(⟨b,o,none⟩:Addr).add j=⟨b,o+j,none⟩:=by unfold Addr.add;split<;>simp_all
theorem bY.flat{α:Type}{enc:α->List Value}{k:Nat}{good:α->Prop}{w:World}{ad:Addr}{L:List α}(hk: ∀x,(enc x).length=k)(h:bY enc k good w (some ad) L): ∀j u,(aI enc L)[j]?=some u->w.cell? (ad.add j)=some u:=by
 intro j u hj;have hjl:j<L.length*k:=by rw[<-bq hk];exact(List.getElem?_eq_some_iff.1 hj).1
 have hk0:0<k:=by
  rcases Nat.eq_zero_or_pos k with rfl|h0
  ·simp at hjl
  ·exact h0
 have hi:j/k<L.length:=Nat.div_lt_of_lt_mul (by rwa[Nat.mul_comm]);obtain⟨b,o,e,_,hx⟩:=h.2 (Nat.lt_of_le_of_lt (Nat.zero_le _) hi);simp only[Option.some.injEq]at e;subst e;have e1:=fM hk L (j/k) (j%k) _ (List.getElem?_eq_getElem hi) (Nat.mod_lt _ hk0);rw[Nat.div_add_mod' j k,hj]at e1;have:=(hx (j/k) _ (List.getElem?_eq_getElem hi)).2 (j%k) u e1.symm;rw[Qe];have e2:o+j/k*k+j%k=o+j:=by rw[Nat.add_assoc,Nat.div_add_mod' j k]
 rw[e2]at this;exact this
theorem Hz(l:List bJ): ∀u∈aI bJ.cells l,u.oneCell'=true:=by
 intro u hu;simp only[aI,List.mem_flatMap]at hu;obtain⟨x,_,hx⟩:=hu;exact Kn x u hx
theorem Ai{w w1 w4:World}{g:Nat}{L:List bJ}{v:Value}(hg: ∀x∈L,x.wf)(hO:ai [] w w1)(hgw:w.heap.size<=g)
  (hown2:w4.ownsRow 0 162 8 v (0+L.length) ([]++aI bJ.cells L))(hgrow:w1.grownBy w4 (Value.slice (some ⟨g,0,none⟩) 0 0).ownBlock)(hnil:v=.slice none 0 0↔Value.slice (some ⟨g,0,none⟩) 0 0=.slice none 0 0/\L.length=0)
  (hat:v.ownBlock=(Value.slice (some ⟨g,0,none⟩) 0 0).ownBlock\/v.ownBlock=some w1.heap.size):
  ∃a' cap',v=.slice a' L.length cap'/\aM w.heap.size w4 a' cap' L/\ai [] w w4:=by
 rw[Nat.zero_add,List.nil_append]at hown2;have hv:v≠ .slice none 0 0:=fun e=>by have:=(hnil.1 e).1;simp at this
 obtain⟨g',cap',he,hR⟩:=sj hown2 rfl hv;subst he;have hO4:ai [] w w4:=hO.trans' (A9 hgrow) (by
  intro z hz
  right
  simp[Value.ownBlock]at hz;omega)
 refine⟨_,cap',rfl,⟨hR.owns bJ.cells_len,?_,hg⟩,hO4⟩;intro q hq;simp only[Option.some.injEq]at hq;subst hq;show w.heap.size<=g';have hs:=hO.size;simp[Value.ownBlock]at hat;omega
def oD(L:List bJ)(w:World)(e:Ending)(w':World):Prop:= ∃a' cap',e=.returned (.slice a' L.length cap')/\aM w.heap.size w' a' cap' L/\ai [] w w'
theorem oF(a:Option Addr)(L:List bJ)(cap:Nat)(w:World)(h:bB w a L)(hb:L.length*72<=140737488351232):
  Calls Tryz.prog 60 #[.slice a L.length cap] w (oD L w):=by
 have hl:=h.1;cases a with
 |none=>
  have h0:L=[]:=by
   cases L with
   |nil=>rfl
   |cons x r=>obtain⟨b,o,e,_⟩:=h.2 (by simp);cases e
  subst h0;have hq:(binOp .eql 35 (.slice none 0 cap) (.slice none 0 0)).run Tryz.prog w=.ok (.bool true) w:=by kernel_rfl
  simp only[List.length_nil];go_enter Tryz.func60,Tryz.ntmps60
  go_wp2_with fail
  go_ret
  exact⟨none,0,rfl,aM.nil _ _,ai.refl _ _⟩
 |some ad=>
  obtain⟨i0,hi,hz0,hz1,hz2⟩:=info_parts Km;have hown:=GA (T:=162) (k:=8) w;have hA:ai [] w (w.alloc (.cells #[] 162)):=(ai.refl _ _).alloc _;have hnews:=bY.flat bJ.cells_len (h.nil' hA);have hlen:=bq bJ.cells_len L;have h1:=Hz L;have hg:=h.all_good;have hq: ∀n:Nat,(binOp .eql 35 (.slice (some ad) n cap) (.slice none 0 0)).run Tryz.prog w=.ok (.bool false) w:=fun n=>by kernel_rfl
  change Hid _ at hown hA hnews hlen h1 hg;clear h;go_enter Tryz.func60,Tryz.ntmps60
  go_wp2_with(at_builtin;refine wpList_append_own_at _ rfl (.tmp 5) (.tmp 6) 35 rfl 0 162 i0 _ 8 72 Tryz.underlying35 hi hz0 hz1 hz2 rfl (by omega) (.slice (some ⟨w.heap.size,0,none⟩) 0 0) 0 [] rfl hown.out ad L.length cap (aI bJ.cells L) rfl hlen.out hnews.out h1.out (by unfold maxLen;omega) (by omega) (Nat.zero_le _) ?_;intro v2 w4 hown2 hgrow hnil hat;obtain⟨a2,cap2,rfl,hR2,hO2⟩:=Ai hg.out hA.out (Nat.le_refl _) hown2 hgrow hnil hat;clear hown2 hgrow hnil hat;replace hR2:=af hR2;replace hO2:=af hO2)
  go_ret
  exact⟨a2,cap2,rfl,hR2.out,hO2.out⟩
def pQ(F:Int->ByteArray×Bool)(m:bW):Int×ByteArray:=
 if m.name.toList.isEmpty then(if m.has then(if(F m.al).2 then(1,(F m.al).1)else(6,⟨#[]⟩))else(7,⟨#[]⟩))else(1,m.name)
def Bb(r:Int×ByteArray)(w:World)(e:Ending)(w':World):Prop:=
 ∃er,e=.returned (.tuple #[.string r.2,er])/\ai [] w w'/\((r.1=1/\er=.nilIface)\/(r.1≠1/\ ∃q,er=.iface 445 (.pointer (some ⟨q,0,none⟩))/\w'.heap[q]?=some (.cells #[.int .i64 r.1] 449 (0,0))))
theorem L8(m:bW)(tb tm:Nat)(l:dY)(ow:ByteArray)(w:World)(h:uS w tb tm l):
  Calls Tryz.prog 328 #[m.val,.pointer (some ⟨tb,0,none⟩),.string ow] w (Bb (pQ (gK l ow) m) w):=by
 obtain⟨nm,hs,al,ti,ty,Ac,tr,nu,⟨x1,y1,z1⟩,⟨x2,y2,z2⟩,vk,vn,vs,⟨x3,y3,z3⟩,⟨x4,y4,z4⟩⟩:=m;have hO:=(ai.refl [] w).alloc (.cells #[.string nm,.bool hs,.int .u64 al,.int .u64 ti,.int .u32 ty,.bool Ac,.bool tr,.bool nu,.slice x1 y1 z1,.slice x2 y2 z2,.int .i64 vk,.int .u64 vn,.string vs,.slice x3 y3 z3,.slice x4 y4 z4] 109);have F:=Qd tb tm l ow al _ (h.own hO (by simp) (by simp));replace hO:=af hO;unfold bW.val bW.cells pQ;simp only;clear h;generalize gK l ow al=r at F⊢;obtain⟨rn,rk⟩:=r;simp only at F⊢;replace F:=af F;by_cases hne:nm.toList.isEmpty=true
 ·rw[if_pos hne]
  cases hs
  ·simp only[Bool.false_eq_true,if_false]
   go_enter Tryz.func328,Tryz.ntmps328
   go_wp2_with fail
   refine(jQ _ _).mono ?_;rintro e w2 ⟨q,rfl,hr2,hO2⟩;change Hid _ at hr2;replace hO2:=af (hO.out.trans hO2);go_wp2_with fail
   go_ret2
   exact⟨_,rfl,hO2.out,.inr ⟨by decide,_,rfl,hr2.out⟩⟩
  ·simp only[if_true]
   cases rk
   ·simp only[Bool.false_eq_true,if_false]
    go_enter Tryz.func328,Tryz.ntmps328
    go_wp2_with fail
    refine F.out.mono ?_;rintro e w2 ⟨rfl,hO2⟩;replace hO2:=af (hO.out.trans hO2);go_wp2_with fail
    refine(jQ _ _).mono ?_;rintro e w3 ⟨q,rfl,hr2,hO3⟩;change Hid _ at hr2;replace hO3:=af (hO2.out.trans hO3);go_wp2_with fail
    go_ret2
    exact⟨_,rfl,hO3.out,.inr ⟨by decide,_,rfl,hr2.out⟩⟩
   ·simp only[if_true]
    go_enter Tryz.func328,Tryz.ntmps328
    go_wp2_with fail
    refine F.out.mono ?_;rintro e w2 ⟨rfl,hO2⟩;replace hO2:=af (hO.out.trans hO2);go_wp2_with fail
    go_ret2
    exact⟨_,rfl,hO2.out,.inl ⟨rfl,rfl⟩⟩
 ·rw[if_neg hne]
  have hne':nm.toList.isEmpty=false:=by simpa using hne
  clear hne;go_enter Tryz.func328,Tryz.ntmps328
  go_wp2_with fail
  go_ret2
  exact⟨_,rfl,hO.out,.inl ⟨rfl,rfl⟩⟩
attribute [local go_sem ↓] Go.wp_at_zero Go.wp_at_succ
def nR(x:bJ)(m:bW):bJ:=⟨x.name,x.has,x.al,x.ty,m.null,m.vk,(jO m.vk m.vn m.vs).1,(jO m.vk m.vn m.vs).2⟩
theorem Ma{x:bJ}{m:bW}(hx:x.wf)(hm:m.wf):(nR x m).wf:=by
 obtain⟨h1,h2,h3,h4,_⟩:=hx;obtain⟨_,_,_,_,h5,h6,h7,h8⟩:=hm;unfold nR jO;split
 ·exact⟨h1,h2,h3,h4,h5,h6,by simp,by simp⟩
 ·exact⟨h1,h2,h3,h4,h5,h6,h7,h8⟩
def fZ(F:Int->ByteArray×Bool):List bW->List bJ->Int×List bJ
 | [],out=>(1,out)
 |m::r,out=>if(pQ F m).1=1 then(match nD out (pQ F m).2 with
  |some i=>fZ F r (out.set i (nR (dU out i) m))
  |none=>(7,[]))else((pQ F m).1,[])
theorem Vx{w:World}{g cap:Nat}{L:List bJ}{i:Nat}{nm:ByteArray}{hs:Bool}{al ty:Int}{nu0 nu:Bool}{vk0 vk vn0 vn:Int}{vs0 vs:ByteArray}(h:si 162 bJ.cells 8 w g cap L)(hi:i<L.length)(hx:dU L i=⟨nm,hs,al,ty,nu0,vk0,vn0,vs0⟩):
  si 162 bJ.cells 8 ((((w.setCell ⟨g,i*8+4,none⟩ (.bool nu)).setCell ⟨g,i*8+5,none⟩ (.int .i64 vk)).setCell ⟨g,i*8+6,none⟩ (.int .u64 vn)).setCell ⟨g,i*8+7,none⟩ (.string vs)) g cap (L.set i ⟨nm,hs,al,ty,nu,vk,vn,vs⟩):=by
 obtain⟨cur,hb,h1,h2,h3,h4⟩:=h;refine⟨_,heap_setCell_same _ _ _ _ _ _ (heap_setCell_same _ _ _ _ _ _ (heap_setCell_same _ _ _ _ _ _ (heap_setCell_same _ _ _ _ _ _ hb))),by simpa using h1,h2,by simp[h3],?_⟩;apply List.ext_getElem?;intro t;simp only[List.length_set];by_cases ht:t<L.length*8
 ·rw[List.getElem?_take_of_lt ht,Array.getElem?_toList]
  simp only[Array.getElem?_setIfInBounds,Array.size_setIfInBounds];have htc:t<cur.size:=by rw[h3];have:=Nat.mul_le_mul_right 8 h1;omega
  have hj:t/8<L.length:=by omega
  have hj2:t/8<(L.set i ⟨nm,hs,al,ty,nu,vk,vn,vs⟩).length:=by simpa using hj
  have hold:cur[t]?=(L[t/8].cells)[t%8]?:=by
   have e:=fM bJ.cells_len L (t/8) (t%8) L[t/8] (List.getElem?_eq_getElem hj) (by omega);rw[Nat.div_add_mod' t 8,<-h4,List.getElem?_take_of_lt ht,Array.getElem?_toList]at e;exact e
  have hnew:=fM bJ.cells_len (L.set i ⟨nm,hs,al,ty,nu,vk,vn,vs⟩) (t/8) (t%8) _ (List.getElem?_eq_getElem hj2) (by omega);rw[Nat.div_add_mod' t 8]at hnew;rw[hnew,List.getElem_set];by_cases hij:i=t/8
  ·rw[if_pos hij]
   have hx2:L[t/8]=⟨nm,hs,al,ty,nu0,vk0,vn0,vs0⟩:=by
    rw[<-hx];subst hij;simp[dU,List.getD,hj]
   rw[hold,hx2];have hm:t%8=0\/t%8=1\/t%8=2\/t%8=3\/t%8=4\/t%8=5\/t%8=6\/t%8=7:=by omega
   rcases hm with h|h|h|h|h|h|h|h
   ·rw[if_neg (by omega),if_neg (by omega),if_neg (by omega),if_neg (by omega),h];rfl
   ·rw[if_neg (by omega),if_neg (by omega),if_neg (by omega),if_neg (by omega),h];rfl
   ·rw[if_neg (by omega),if_neg (by omega),if_neg (by omega),if_neg (by omega),h];rfl
   ·rw[if_neg (by omega),if_neg (by omega),if_neg (by omega),if_neg (by omega),h];rfl
   ·rw[if_neg (by omega),if_neg (by omega),if_neg (by omega),if_pos (by omega),if_pos (by omega),h];rfl
   ·rw[if_neg (by omega),if_neg (by omega),if_pos (by omega),if_pos (by omega),h];rfl
   ·rw[if_neg (by omega),if_pos (by omega),if_pos (by omega),h];rfl
   ·rw[if_pos (by omega),if_pos (by omega),h];rfl
  ·rw[if_neg hij,if_neg (by omega),if_neg (by omega),if_neg (by omega),if_neg (by omega),hold]
 ·rw[List.getElem?_eq_none (by simp;omega),List.getElem?_eq_none (by rw[bq bJ.cells_len];simp;omega)]
theorem aM.form{B:Nat}{w:World}{a:Option Addr}{cap:Nat}{L:List bJ}(h:aM B w a cap L)(h0:0<L.length): ∃g,a=some ⟨g,0,none⟩/\B<=g/\si 162 bJ.cells 8 w g cap L:=by
 obtain⟨g,cap',he,hR⟩:=sj h.own rfl (fun e=>by
  rcases h.own.2 with⟨_,h1⟩|⟨_,_,_,h1,_⟩
  ·omega
  ·rw[e]at h1;cases h1)
 cases he;exact⟨g,rfl,h.fresh _ rfl,hR⟩
theorem aM.set{B:Nat}{w:World}{g cap:Nat}{L:List bJ}{i:Nat}{x:bJ}{w':World}(h:aM B w (some ⟨g,0,none⟩) cap L)(hR:si 162 bJ.cells 8 w' g cap (L.set i x))(hx:x.wf):aM B w' (some ⟨g,0,none⟩) cap (L.set i x):=
 ⟨hR.owns bJ.cells_len,h.fresh,fun y hy=>by
  rcases List.mem_or_eq_of_mem_set hy with h1|rfl
  ·exact h.good y h1
  ·exact hx⟩
def Kr(r:Int×List bJ)(w:World)(e:Ending)(w':World):Prop:=
 ∃a cap er,e=.returned (.tuple #[.slice a r.2.length cap,er])/\aM w.heap.size w' a cap r.2/\ai [] w w'/\
  ((r.1=1/\er=.nilIface)\/ ∃q,er=.iface 445 (.pointer (some ⟨q,0,none⟩))/\w'.heap[q]?=some (.cells #[.int .i64 r.1] 449 (0,0)))
theorem HV(a:Option Addr)(L:List bJ)(cap:Nat)(am:Option Addr)(M:List bW)(XV:Nat)(tb tm:Nat)(l:dY)(ow:ByteArray)(w:World)(h:bB w a L)(hM:eF w am M)(hT:uS w tb tm l)(hb:L.length*72<=140737488351232):
  Calls Tryz.prog 304 #[.slice a L.length cap,.slice am M.length XV,.pointer (some ⟨tb,0,none⟩),.string ow] w (Kr (fZ (gK l ow) M L) w):=by
 have hlm:=hM.1;have hl:=h.1;have C:=af (oF a L cap w h hb);generalize hr:fZ (gK l ow) M L=r;change Hid _ at hr;replace hM:=af hM;replace hT:=af hT;clear h;go_enter Tryz.func304,Tryz.ntmps304
 go_wp2_with fail
 refine C.out.mono ?_;rintro e w1 ⟨oa,oc,rfl,gU,aL⟩;change Hid _ at gU aL;clear C;obtain⟨N,hN⟩: ∃N,N=L.length:=⟨_,rfl⟩;rw[<-hN]at hb hl⊢;replace hN:=af hN;go_wp2_with fail
 go_loopg[20] M.length (fun g s20 wr=> ∃(k:Nat) (Lk:List bJ),k<=M.length/\g=M.length-k/\s20=.int .i64 k/\
  Aside (Lk.length=N/\aM w.heap.size wr oa oc Lk/\ai [] w wr/\fZ (gK l ow) (M.drop k) Lk=r))
 case atStart=>exact⟨0,L,by omega,by omega,rfl,hN.out.symm,gU.out,aL.out,hr.out⟩
 case round=>
  obtain⟨k,Lk,hk,rfl,rfl,hA⟩:=hrel;obtain⟨hL,hR,hO,hG⟩:=hA;clear hr gU aL;by_cases hlt:k<M.length
  ·obtain⟨b,o,rfl,hbl,hwf,hc⟩:=(hM.out.nil' hO).met hlt
   rw[List.drop_eq_getElem_cons hlt]at hG;generalize M[k]=x at hc hG hwf;have hNm:=fun(w1:World) (aL:ai [] w w1)=>L8 x tb tm l ow w1 (hT.out.own aL (by simp) (by simp))
   have OE:=fun n=>uz Lk n
   have hpi: ∀n,gy Lk n=(match nD Lk n with|some i=>(i:Int)|none=> -1):=fun n=>rfl
   have hP:=fun(n:ByteArray) (w1:World) (aL:ai [] wr w1) (lb:Nat) (hc1:w1.cell? ⟨lb,0,none⟩=some (.slice oa Lk.length oc))=>AX oa Lk oc lb n w1 (((hR.nil' aL).at_ (by omega))) hc1
   rw[hL]at hP OE;have hV:=AZ x.vk x.vn x.vs;have hu: ∀y:bJ,nR y x=⟨y.name,y.has,y.al,y.ty,x.null,x.vk,(jO x.vk x.vn x.vs).1,(jO x.vk x.vn x.vs).2⟩:=fun y=>rfl
   have huw: ∀y:bJ,y.wf->(nR y x).wf:=fun y hy=>Ma hy hwf
   unfold fZ at hG;generalize pQ (gK l ow) x=rn at hNm hG;obtain⟨rc,rs⟩:=rn;generalize jO x.vk x.vn x.vs=pv at hV hu;obtain⟨pn,ps⟩:=pv;generalize hUF:(fun y=>nR y x)=uf at*;have acs: ∀y,nR y x=uf y:=fun y=>by rw[<-hUF]
   simp only[acs]at hG hu huw;clear hUF acs;obtain⟨nm,hs,al,ti,ty,Ac,tr,nu,⟨x1,y1,z1⟩,⟨x2,y2,z2⟩,vk,vn,vs,⟨x3,y3,z3⟩,⟨x4,y4,z4⟩⟩:=x;have c0:=hc 0 _ rfl;have c1:=hc 1 _ rfl;have c2:=hc 2 _ rfl;have c3:=hc 3 _ rfl;have c4:=hc 4 _ rfl;have c5:=hc 5 _ rfl;have c6:=hc 6 _ rfl;have c7:=hc 7 _ rfl;have c8:=hc 8 _ rfl;have c9:=hc 9 _ rfl;have c10:=hc 10 _ rfl;have c11:=hc 11 _ rfl;have c12:=hc 12 _ rfl;have c13:=hc 13 _ rfl;have c14:=hc 14 _ rfl;simp only[Nat.add_zero]at c0 c1 c2 c3 c4 c5 c6 c7 c8 c9 c10 c11 c12 c13 c14;have Dw:=hO.alloc (.cells #[.string nm,.bool hs,.int .u64 al,.int .u64 ti,.int .u32 ty,.bool Ac,.bool tr,.bool nu,.slice x1 y1 z1,.slice x2 y2 z2,.int .i64 vk,.int .u64 vn,.string vs,.slice x3 y3 z3,.slice x4 y4 z4] 109);have Ga:=(ai.refl [] wr).alloc (.cells #[.string nm,.bool hs,.int .u64 al,.int .u64 ti,.int .u32 ty,.bool Ac,.bool tr,.bool nu,.slice x1 y1 z1,.slice x2 y2 z2,.int .i64 vk,.int .u64 vn,.string vs,.slice x3 y3 z3,.slice x4 y4 z4] 109);have hBm:=heap_alloc_new wr (.cells #[.string nm,.bool hs,.int .u64 al,.int .u64 ti,.int .u32 ty,.bool Ac,.bool tr,.bool nu,.slice x1 y1 z1,.slice x2 y2 z2,.int .i64 vk,.int .u64 vn,.string vs,.slice x3 y3 z3,.slice x4 y4 z4] 109);have XT:=hO.size;unfold bW.val bW.cells Bb at hNm;simp only at hNm hG hu hV;have N1:=hNm _ Dw;change Hid _ at hG hu huw hV hP OE hpi hO hBm hL;replace N1:=af N1;replace hR:=af hR;replace Dw:=af Dw;replace Ga:=af Ga;clear hc hwf hNm;go_wp2_with fail
   refine N1.out.mono ?_;rintro e w2 ⟨er,rfl,hO2,hor⟩;have hO3:=Dw.out.trans hO2;have Au:=Ga.out.trans hO2;have hB3:=hO2.heap hBm.out (by simp);clear N1;rcases hor with⟨h1,rfl⟩|⟨h1,q,rfl,hq⟩
   ·replace hG:Hid ((match nD Lk rs with|some i=>fZ (gK l ow) (M.drop (k+1)) (Lk.set i (uf (dU Lk i)))|none=>(7,[]))=r):=af (by have:=hG.out;rw[if_pos h1]at this;exact this)
    clear h1 c0 c1 c2 c3 c4 c5 c6 c7 c8 c9 c10 c11 c12 c13 c14;have hA1:=(ai.refl [] w2).alloc (.cells #[.slice oa N oc] 35);have P1:=hP.out rs (w2.alloc (.cells #[.slice oa N oc] 35)) (Au.trans hA1) w2.heap.size (by simp);have hB4:=hA1.heap hB3 (by simp);have hO4:=hO3.trans hA1;have aaq:=Au.trans hA1;have acu:=OE.out rs;have XW:=hpi.out rs;clear hO2 hO3 Au hB3 hA1 hP OE hpi;cases hidx:nD Lk rs with
    |none=>
     have hpv:gy Lk rs= -1:=by rw[XW,hidx]
     have Pb:r=(7,[]):=by have:=hG.out;rw[hidx]at this;exact this.symm
     rw[hpv]at P1;change Hid _ at Pb;replace P1:=af P1;replace hO4:=af hO4;clear XW acu hG hidx hpv hB4 aaq;go_wp2_with fail
     refine P1.out.mono ?_;rintro e w3 ⟨rfl,aF⟩;replace aF:=af (hO4.out.trans aF);go_wp2_with fail
     refine(jQ _ _).mono ?_;rintro e w4 ⟨q,rfl,hr2,bI⟩;change Hid _ at hr2;replace bI:=af (aF.out.trans bI);go_wp2_with fail
     go_ret2
     rw[Pb.out];exact⟨none,0,_,rfl,aM.nil _ _,bI.out,.inr ⟨_,rfl,hr2.out⟩⟩
    |some i=>
     have hpv:gy Lk rs=i:=by rw[XW,hidx]
     have hG2:fZ (gK l ow) (M.drop (k+1)) (Lk.set i (uf (dU Lk i)))=r:=by have:=hG.out;rw[hidx]at this;exact this
     have hiN:i<N:=by rw[<-hL.out];exact(Ee hidx).1
     obtain⟨g,rfl,hgw,Gc⟩:=hR.out.form (by rw[hL.out];omega);have hgl:=Gc.lt;rw[hpv]at P1;change Hid _ at hG2 hB4;replace P1:=af P1;replace hO4:=af hO4;replace Gc:=af Gc;clear XW acu hG hidx hpv;go_wp2_with fail
     refine P1.out.mono ?_;rintro e w3 ⟨rfl,aF⟩;have bI:=hO4.out.trans aF;have aar:=aaq.trans aF;have Aw:=aF.heap hB4.out (by simp);have d7:=ay Aw (j:=7) rfl;have Av:=ay Aw (j:=10) rfl;have BQ:=ay Aw (j:=11) rfl;have BR:=ay Aw (j:=12) rfl;have q0:(0:Int)<=i:=by omega
     have q1:(i:Int)<N:=by omega
     have hne1:g≠wr.heap.size:=by omega
     have hne2:wr.heap.size≠g:=by omega
     have hi':i<Lk.length:=by rw[hL.out];exact hiN
     have hget:=oC hi';have hxw:(dU Lk i).wf:=hR.out.good _ (List.mem_of_getElem? hget);have hy:=fun(W:World) (ho:ai [] wr W) (c:Nat) (v:Value) (hv:(dU Lk i).cells[c]?=some v)=>(Gc.out.own ho (by simp)).cell bJ.cells_len hget hv
     have hfz:=fun(W:World) (ho:ai [] wr W) (j:Nat)=>(Gc.out.own ho (by simp)).frozen j
     have hset:=fun(W:World) (ho:ai [] wr W) (nm hs al ty nu0 vk0 vn0 vs0) (nu vk vn vs) (he:dU Lk i=⟨nm,hs,al,ty,nu0,vk0,vn0,vs0⟩)=>Vx (nu:=nu) (vk:=vk) (vn:=vn) (vs:=vs) (Gc.out.own ho (by simp)) hi' he
     have hu2:=hu.out (dU Lk i);have hw2:=huw.out _ hxw;generalize hxi:dU Lk i=y at hy hset hG2 hu2 hw2;obtain⟨Y5,hs',al',ty',nu',vk',vn',vs'⟩:=y;have K5:=fun(W:World) (ho:ai [] wr W)=>hset W ho _ _ _ _ _ _ _ _ nu vk pn ps rfl
     simp only at hu2;change Hid _ at hu2 hw2 K5 hy hfz Aw;replace bI:=af bI;replace aar:=af aar;clear hset hxi hget hxw aaq aF P1 hO4 hB4;go_wp2_with fail
     go_region_held3(fun w'=>w'.cell? ⟨wr.heap.size,7,none⟩=some (.bool nu)/\w'.cell? ⟨wr.heap.size,10,none⟩=some (.int .i64 vk)/\w'.cell? ⟨wr.heap.size,11,none⟩=some (.int .u64 vn)/\w'.cell? ⟨wr.heap.size,12,none⟩=some (.string vs))
      (first|go_keep|(exact⟨ay XY (j:=7) rfl,ay XY (j:=10) rfl,ay XY (j:=11) rfl,ay XY (j:=12) rfl⟩))
      ((go_at_call 329;refine(hV.out _).mono ?_;rintro e w4 ⟨rfl,eU⟩;have XY:=eU.heap (b:=wr.heap.size) Aw.out (by simp);have gV:ai [] wr w4:=aar.out.drew.trans eU;have y4:=hy.out w4 gV 4 _ rfl;have y5:=hy.out w4 gV 5 _ rfl;have y6:=hy.out w4 gV 6 _ rfl;have y7:=hy.out w4 gV 7 _ rfl;have z4:=hfz.out w4 gV (i*8+4);have z5:=hfz.out w4 gV (i*8+5);have z6:=hfz.out w4 gV (i*8+6);have z7:=hfz.out w4 gV (i*8+7)))
     have R1:=K5.out w4 gV;have O1:ai [] w ((((w4.setCell ⟨g,i*8+4,none⟩ (.bool nu)).setCell ⟨g,i*8+5,none⟩ (.int .i64 vk)).setCell ⟨g,i*8+6,none⟩ (.int .u64 pn)).setCell ⟨g,i*8+7,none⟩ (.string ps)):=
      ((((bI.out.drew.trans eU).setCell (.inr hgw) _).setCell (.inr hgw) _).setCell (.inr hgw) _).setCell (.inr hgw) _
     have R2:=hR.out.set R1 (by rw[<-hu2.out];exact hw2.out);replace hG2:=hG2.out;rw[hu2.out]at hG2;change Hid _ at hG2 R2 O1;clear R1 K5 gV eU XY y4 y5 y6 y7 z4 z5 z6 z7 hy hfz;go_wp2_with fail
     go_roundg(M.length-(k+1))
     case measure=>omega
     case rel=>exact⟨k+1,_,by omega,rfl,by go_num,by rw[List.length_set];exact hL.out,R2.out,O1.out,hG2.out⟩
   ·have hr1:r=(rc,[]):=by have:=hG.out;rw[if_neg h1]at this;exact this.symm
    change Hid _ at hr1 hO3 hq;clear hG h1 hO2 Au hB3 c0 c1 c2 c3 c4 c5 c6 c7 c8 c9 c10 c11 c12 c13 c14;go_wp2_with fail
    go_ret2
    rw[hr1.out];exact⟨none,0,_,rfl,aM.nil _ _,hO3.out,.inr ⟨_,rfl,hq.out⟩⟩
  ·obtain rfl:k=M.length:=by omega
   rw[List.drop_eq_nil_of_le (Nat.le_refl _)]at hG;have hr1:r=(1,Lk):=by unfold fZ at hG;exact hG.symm
   change Hid _ at hr1 hO hL;replace hR:=af hR;clear hG;go_wp2_with fail
   go_ret2
   rw[hr1.out];exact⟨oa,oc,_,by simp only[hL.out];rfl,hR.out,hO.out,.inl ⟨rfl,rfl⟩⟩
end Go.Proofs.YtedcakchekaemaaGreatDoor
namespace Go.Proofs.YtedcakchekaemaaGreatDoor.Sq
open Go.Proofs.YtedcakchekaemaaGreatDoor
open Go.RowKit
def RowAt(w:World)(b:Nat)(x:Int)(g:Bool):Prop:=w.heap[b]?=some (.cells #[.int .u8 x,.bool g,.bool true] 212 (0,0))/\0<=x/\x<=255
theorem RowAt.own{S:List Nat}{w w':World}{b:Nat}{x:Int}{g:Bool}(h:RowAt w b x g)(ho:ai S w w')(hb:b∉S):RowAt w' b x g:=⟨ho.heap h.1 hb,h.2⟩
theorem RowAt.set{w:World}{b:Nat}{x:Int}{g:Bool}(h:RowAt w b x g)(y:Int)(g':Bool)(h0:0<=y)(h1:y<=255):RowAt ((w.setCell ⟨b,0,none⟩ (.int .u8 y)).setCell ⟨b,1,none⟩ (.bool g')) b y g':=
 ⟨(heap_setCell_same _ _ _ _ _ _ (heap_setCell_same _ _ _ _ _ _ h.1)),h0,h1⟩
theorem lQ(b:Nat)(m:Bool)(w:World)(hm:w.cell? ⟨b,2,none⟩=some (.bool m)):
  Calls Tryz.prog 102 #[.pointer (some ⟨b,0,none⟩)] w fun e w'=>e=.returned (.bool (!m))/\w=w':=by
 go_enter Tryz.func102,Tryz.ntmps102
 go_wp2
 go_ret
 exact⟨rfl,rfl⟩
theorem yY(n:Int)(w:World):Calls Tryz.prog 298 #[.int .i64 n] w fun e w'=>e=.returned (.tuple #[.int .u8 (n%256),.bool (decide (0<=n/\n<256))])/\w=w':=by
 by_cases h0:0<=n
 ·by_cases h1:n<256
  ·have hd:decide (0<=n/\n<256)=true:=by simpa using⟨h0,h1⟩
   rw[hd];clear hd;go_enter Tryz.func298,Tryz.ntmps298
   go_wp2
   go_ret2
   exact⟨by rw[show n%256=n by omega];rfl,rfl⟩
  ·have hd:decide (0<=n/\n<256)=false:=by simp;omega
   rw[hd];clear hd;go_enter Tryz.func298,Tryz.ntmps298
   go_wp2
   go_ret2
   exact⟨rfl,rfl⟩
 ·have hd:decide (0<=n/\n<256)=false:=by simp;omega
  rw[hd];clear hd;go_enter Tryz.func298,Tryz.ntmps298
  go_wp2
  go_ret2
  exact⟨rfl,rfl⟩
theorem new_any(w:World):Calls Tryz.prog 162 #[] w fun e w'=> ∃b,e=.returned (.pointer (some ⟨b,0,none⟩))/\RowAt w' b 0 false/\w.heap.size<=b/\ai [] w w':=by
 go_enter Tryz.func162,Tryz.ntmps162
 go_wp2
 go_ret
 exact⟨w.heap.size,rfl,⟨heap_alloc_new _ _,by omega,by omega⟩,Nat.le_refl _,(ai.refl _ _).alloc _⟩
def sTake(x:Int)(g:Bool)(n:Int):Int×Int×Bool:=
 if 0<=n/\n<256 then(if g then(if n=x then(0,(n+1)%256,true)else(1,x,g))else(7,x,g))else(1,x,g)
def sBegin(x:Int)(g:Bool)(n:Int):Int×Int×Bool:=
 if 0<=n/\n<256 then(0,(n+1)%256,true)else(1,x,g)
def RowPost(w:World)(b:Nat)(r:Int×Int×Bool)(e:Ending)(w':World):Prop:=
 e=.returned (.int .i64 r.1)/\RowAt w' b r.2.1 r.2.2/\ai [b] w w'
theorem Et(b:Nat)(x:Int)(g:Bool)(n:Int)(w:World)(h:RowAt w b x g):
  Calls Tryz.prog 299 #[.pointer (some ⟨b,0,none⟩),.func (.func 300) #[.int .u8 n] #[]] w fun e w'=>e=.returned (.tuple #[])/\RowAt w' b ((n+1)%256) true/\ai [b] w w':=by
 have c0:w.cell? ⟨b,0,none⟩=some (.int .u8 x):=cell_of_row w b 0 _ _ _ h.1;have c1:w.cell? ⟨b,1,none⟩=some (.bool g):=cell_of_row w b 1 _ _ _ h.1;have f0:w.frozen? ⟨b,0,none⟩=false:=frozen_of_row w b _ _ _ h.1;have f1:w.frozen? ⟨b,1,none⟩=false:=frozen_of_row w b _ _ _ h.1;have hP:=af (h.set ((n+1)%256) true (by omega) (by omega));clear h;go_enter Tryz.func299,Tryz.ntmps299
 go_wp2
 go_end0
 exact⟨rfl,hP.out,((ai.refl _ _).setCell (by simp) _).setCell (by simp) _⟩
theorem take_any(b:Nat)(x:Int)(g:Bool)(n:Int)(w:World)(h:RowAt w b x g):Calls Tryz.prog 305 #[.pointer (some ⟨b,0,none⟩),.int .i64 n] w (RowPost w b (sTake x g n)):=by
 have c0:w.cell? ⟨b,0,none⟩=some (.int .u8 x):=cell_of_row w b 0 _ _ _ h.1;have c1:w.cell? ⟨b,1,none⟩=some (.bool g):=cell_of_row w b 1 _ _ _ h.1;have c2:w.cell? ⟨b,2,none⟩=some (.bool true):=cell_of_row w b 2 _ _ _ h.1;have hno:=lQ b true w c2;have hof:=af (yY n w);replace hno:=af hno;have hP:=af h;by_cases hn:0<=n/\n<256
 ·have hd:decide (0<=n/\n<256)=true:=by simpa using hn
  have hm:n%256=n:=by omega
  rw[hd,hm]at hof;cases g
  ·have hr:sTake x false n=(7,x,false):=by simp[sTake,hn]
   change Hid _ at hr;clear hd hm hn h;go_enter Tryz.func305,Tryz.ntmps305
   go_wp2_with fail
   refine hof.out.mono ?_;rintro e w' ⟨rfl,rfl⟩;go_wp2_with fail
   refine hno.out.mono ?_;rintro e w' ⟨rfl,rfl⟩;go_wp2_with fail
   go_ret
   rw[hr.out];exact⟨rfl,hP.out,ai.refl _ _⟩
  ·by_cases hx:n=x
   ·subst hx
    have hr:sTake n true n=(0,(n+1)%256,true):=by simp[sTake,hn]
    change Hid _ at hr;have hg:=af (Et b n true n w h);clear hd hm hn h;go_enter Tryz.func305,Tryz.ntmps305
    go_wp2_with fail
    refine hof.out.mono ?_;rintro e w' ⟨rfl,rfl⟩;go_wp2_with fail
    refine hno.out.mono ?_;rintro e w' ⟨rfl,rfl⟩;go_wp2_with fail
    refine hg.out.mono ?_;rintro e w' ⟨rfl,hH,hO⟩;go_wp2_with fail
    go_ret
    rw[hr.out];exact⟨rfl,hH,hO⟩
   ·have hr:sTake x true n=(1,x,true):=by simp[sTake,hn,hx]
    change Hid _ at hr;have hx':(n !=x)=true:=by simpa using hx
    clear hd hm hn h hx;go_enter Tryz.func305,Tryz.ntmps305
    go_wp2_with fail
    refine hof.out.mono ?_;rintro e w' ⟨rfl,rfl⟩;go_wp2_with fail
    refine hno.out.mono ?_;rintro e w' ⟨rfl,rfl⟩;go_wp2_with fail
    go_ret
    rw[hr.out];exact⟨rfl,hP.out,ai.refl _ _⟩
 ·have hd:decide (0<=n/\n<256)=false:=by simpa using hn
  rw[hd]at hof;have hr:sTake x g n=(1,x,g):=by simp only[sTake,if_neg hn]
  change Hid _ at hr;clear hd hn h;go_enter Tryz.func305,Tryz.ntmps305
  go_wp2_with fail
  refine hof.out.mono ?_;rintro e w' ⟨rfl,rfl⟩;go_wp2_with fail
  refine hno.out.mono ?_;rintro e w' ⟨rfl,rfl⟩;go_wp2_with fail
  go_ret
  rw[hr.out];exact⟨rfl,hP.out,ai.refl _ _⟩
theorem begin_any(b:Nat)(x:Int)(g:Bool)(n:Int)(w:World)(h:RowAt w b x g):Calls Tryz.prog 263 #[.pointer (some ⟨b,0,none⟩),.int .i64 n] w (RowPost w b (sBegin x g n)):=by
 have c2:w.cell? ⟨b,2,none⟩=some (.bool true):=cell_of_row w b 2 _ _ _ h.1;have hno:=lQ b true w c2;have hof:=af (yY n w);replace hno:=af hno;have hP:=af h;by_cases hn:0<=n/\n<256
 ·have hd:decide (0<=n/\n<256)=true:=by simpa using hn
  have hm:n%256=n:=by omega
  rw[hd,hm]at hof;have hr:sBegin x g n=(0,(n+1)%256,true):=by simp[sBegin,hn]
  change Hid _ at hr;have hg:=af (Et b x g n w h);clear hd hm hn h;go_enter Tryz.func263,Tryz.ntmps263
  go_wp2_with fail
  refine hof.out.mono ?_;rintro e w' ⟨rfl,rfl⟩;go_wp2_with fail
  refine hno.out.mono ?_;rintro e w' ⟨rfl,rfl⟩;go_wp2_with fail
  refine hg.out.mono ?_;rintro e w' ⟨rfl,hH,hO⟩;go_wp2_with fail
  go_ret
  rw[hr.out];exact⟨rfl,hH,hO⟩
 ·have hd:decide (0<=n/\n<256)=false:=by simpa using hn
  rw[hd]at hof;have hr:sBegin x g n=(1,x,g):=by simp only[sBegin,if_neg hn]
  change Hid _ at hr;clear hd hn h;go_enter Tryz.func263,Tryz.ntmps263
  go_wp2_with fail
  refine hof.out.mono ?_;rintro e w' ⟨rfl,rfl⟩;go_wp2_with fail
  refine hno.out.mono ?_;rintro e w' ⟨rfl,rfl⟩;go_wp2_with fail
  go_ret
  rw[hr.out];exact⟨rfl,hP.out,ai.refl _ _⟩
theorem want_any(b:Nat)(x:Int)(g:Bool)(w:World)(h:RowAt w b x g):
  Calls Tryz.prog 61 #[.pointer (some ⟨b,0,none⟩)] w fun e w'=>e=.returned (.tuple #[.int .i64 (if g then x else 0),.bool g])/\w=w':=by
 have c0:w.cell? ⟨b,0,none⟩=some (.int .u8 x):=cell_of_row w b 0 _ _ _ h.1;have c1:w.cell? ⟨b,1,none⟩=some (.bool g):=cell_of_row w b 1 _ _ _ h.1;have c2:w.cell? ⟨b,2,none⟩=some (.bool true):=cell_of_row w b 2 _ _ _ h.1;have hno:=af (lQ b true w c2);have h0:=h.2.1;have h1:=h.2.2;clear h;cases g;all_goals
  go_enter Tryz.func61,Tryz.ntmps61
  go_wp2_with fail
  refine hno.out.mono ?_;rintro e w' ⟨rfl,rfl⟩;go_wp2_with fail
  go_ret2
  exact⟨rfl,rfl⟩
theorem fits_any(b:Nat)(x:Int)(g:Bool)(n:Int)(w:World)(h:RowAt w b x g):
  Calls Tryz.prog 303 #[.pointer (some ⟨b,0,none⟩),.int .i64 n] w fun e w'=>e=.returned (.bool (g&&n==x))/\w=w':=by
 have c0:w.cell? ⟨b,0,none⟩=some (.int .u8 x):=cell_of_row w b 0 _ _ _ h.1;have c1:w.cell? ⟨b,1,none⟩=some (.bool g):=cell_of_row w b 1 _ _ _ h.1;have c2:w.cell? ⟨b,2,none⟩=some (.bool true):=cell_of_row w b 2 _ _ _ h.1;have hno:=af (lQ b true w c2);have hof:=af (yY n w);have h0:=h.2.1;have h1:=h.2.2;clear h;by_cases hn:0<=n/\n<256
 ·have hd:decide (0<=n/\n<256)=true:=by simpa using hn
  have hm:n%256=n:=by omega
  rw[hd,hm]at hof;clear hd hm hn;cases g;all_goals
   go_enter Tryz.func303,Tryz.ntmps303
   go_wp2_with fail
   refine hof.out.mono ?_;rintro e w' ⟨rfl,rfl⟩;go_wp2_with fail
   refine hno.out.mono ?_;rintro e w' ⟨rfl,rfl⟩;go_wp2_with fail
   go_ret
   exact⟨by simp,rfl⟩
 ·have hd:decide (0<=n/\n<256)=false:=by simpa using hn
  have hr:(g&&n==x)=false:=by
   have:(n==x)=false:=by simp;omega
   simp[this]
  change Hid _ at hr;rw[hd]at hof;clear hd hn;go_enter Tryz.func303,Tryz.ntmps303
  go_wp2_with fail
  refine hof.out.mono ?_;rintro e w' ⟨rfl,rfl⟩;go_wp2_with fail
  refine hno.out.mono ?_;rintro e w' ⟨rfl,rfl⟩;go_wp2_with fail
  go_ret
  exact⟨by rw[hr.out];rfl,rfl⟩
theorem end_any(b:Nat)(x:Int)(g:Bool)(w:World)(h:RowAt w b x g):
  Calls Tryz.prog 264 #[.pointer (some ⟨b,0,none⟩)] w fun e w'=>e=.returned (.bool g)/\RowAt w' b 0 false/\ai [b] w w':=by
 have c0:w.cell? ⟨b,0,none⟩=some (.int .u8 x):=cell_of_row w b 0 _ _ _ h.1;have c1:w.cell? ⟨b,1,none⟩=some (.bool g):=cell_of_row w b 1 _ _ _ h.1;have c2:w.cell? ⟨b,2,none⟩=some (.bool true):=cell_of_row w b 2 _ _ _ h.1;have f0:w.frozen? ⟨b,0,none⟩=false:=frozen_of_row w b _ _ _ h.1;have f1:w.frozen? ⟨b,1,none⟩=false:=frozen_of_row w b _ _ _ h.1;have hno:=af (lQ b true w c2);have hP:=af (h.set 0 false (by omega) (by omega));clear h;go_enter Tryz.func264,Tryz.ntmps264
 go_wp2_with fail
 refine hno.out.mono ?_;rintro e w' ⟨rfl,rfl⟩;go_wp2_with fail
 go_ret
 exact⟨rfl,hP.out,((ai.refl _ _).setCell (by simp) _).setCell (by simp) _⟩
end Go.Proofs.YtedcakchekaemaaGreatDoor.Sq
