import Derived.Test.YtedcakchekaemaaGreatDoorMn14
import Derived.Test.YtedcakchekaemaaGreatDoorMn19
import Derived.Test.YtedcakchekaemaaGreatDoorMn18
set_option maxRecDepth 100000
set_option maxHeartbeats 16000000
set_option linter.all false
namespace Go.Proofs.YtedcakchekaemaaGreatDoor
open Go.RowKit
theorem O7{α:Type}{key:α->ByteArray}{r:List α}(hr:dh key r){n:ByteArray}{k:Nat}{p:α}(hk:r[k]?=some p):aP (key p) n=true↔k<bV key r n:=by
 constructor
 ·intro h
  rcases Nat.lt_or_ge k (bV key r n)with h1|h1
  ·exact h1
  ·exfalso
   have hl:bV key r n<r.length:=Nat.lt_of_le_of_lt h1 (List.getElem?_eq_some_iff.1 hk).1;have h2:=Bf (key:=key) (r:=r) (n:=n) (List.getElem?_eq_getElem hl);rcases Nat.lt_or_ge (bV key r n) k with h3|h3
   ·have h4:=List.pairwise_iff_getElem.1 hr (bV key r n) k hl (List.getElem?_eq_some_iff.1 hk).1 h3
    rw[(List.getElem?_eq_some_iff.1 hk).2]at h4;rw[jH h4 h]at h2;cases h2
   ·have:k=bV key r n:=by omega
    subst this;rw[(List.getElem?_eq_some_iff.1 hk).2,h]at h2;cases h2
 ·intro h
  obtain⟨q,h1,h2⟩:=Si h;rw[h1]at hk;cases hk;exact h2
theorem Sj(s:ByteArray)(w:World):Calls Tryz.prog 65 #[.string s] w fun e w'=>e=.returned (.bool false)/\w=w':=by
 have hs:(s==s)=true:=by simp
 have hs2:(s.toList==s.toList)=true:=by simp
 go_enter Tryz.func65,Tryz.ntmps65
 go_wp2_with fail
 go_ret
 exact⟨by simp,rfl⟩
theorem xP(s t:ByteArray)(w:World):Calls Tryz.prog 29 #[.string s,.string t] w fun e w'=>e=.returned (.int .i64 (lq s t))/\w=w':=by
 have N:=af (fun x W=>Sj x W);unfold lq;have h0:aP s t=true->aP t s=false:=BS;have h1:aP s t=false->aP t s=false->(s.toList==t.toList)=true:=fun h1 h2=>by rw[lG h1 h2];simp
 have h2:aP t s=true->(s.toList==t.toList)=false:=fun h=>by
  cases hb:s.toList==t.toList with
  |false=>rfl
  |true=>
   have:=fH (by simpa using hb:s.toList=t.toList);subst this;rw[gM]at h;cases h
 cases hs:aP s t
 ·cases ht:aP t s
  ·have h3:=h1 hs ht
   unfold aP at hs;rw[h3];clear h0 h1 h2 ht;go_enter Tryz.func29,Tryz.ntmps29
   go_wp2_with(go_at_call 65;(with_reducible refine(N.out _ _).mono ?_);rintro e w1 ⟨rfl,rfl⟩)
   go_ret
   exact⟨by simp,rfl⟩
  ·have h3:=h2 ht
   unfold aP at hs;rw[h3];clear h0 h1 h2 ht;go_enter Tryz.func29,Tryz.ntmps29
   go_wp2_with(go_at_call 65;(with_reducible refine(N.out _ _).mono ?_);rintro e w1 ⟨rfl,rfl⟩)
   go_ret
   exact⟨by simp,rfl⟩
 ·unfold aP at hs
  clear h0 h1 h2;go_enter Tryz.func29,Tryz.ntmps29
  go_wp2_with(go_at_call 65;(with_reducible refine(N.out _ _).mono ?_);rintro e w1 ⟨rfl,rfl⟩)
  go_ret
  exact⟨by simp,rfl⟩
theorem Gl(a:ByteArray)(b:Bool)(c:Option Addr)(l k:Nat)(w:World):(Instr.field 46 (.agg #[.string a,.bool b,.slice c l k]) 0).run Tryz.prog w=.ok (.string a) w:=by kernel_rfl
theorem zU(d:DW)(x:bQ)(nm:ByteArray)(w:World)(h:eX w d x):Calls Tryz.prog 307 #[.pointer (some ⟨d.blk,0,none⟩),.string nm] w fun e w'=>e=.returned (.int .i64 (lq x.name nm))/\ai [] w w':=by
 have V:=af (uM d x w h);have C:=af (fun W=>xP x.name nm W);have hf:=Gl;clear h;go_enter Tryz.func307,Tryz.ntmps307
 go_wp2_with(first
  |(go_at_call 62;(with_reducible refine V.out.mono ?_);rintro e w1 ⟨a,cap,rfl,_,hO⟩;replace hO:=af hO)
  |(go_at_call 29;(with_reducible refine(C.out _).mono ?_);rintro e w2 ⟨rfl,rfl⟩))
 go_ret
 exact⟨rfl,hO.out⟩
theorem Dw(n:Nat)(g nm:ByteArray)(L:EW)(s:EN)(dn:ByteArray)(w:World)(h:au w n g nm L s)(hr:dh bQ.name s.dev):
  Calls Tryz.prog 306 #[L.dv,.string dn,(.func (.func 307) #[] #[])] w fun e w'=>e=.returned (.tuple #[.int .i64 (bV bQ.name s.dev dn),.bool (iM bQ.name s.dev dn)])/\ai [] w w':=by
 obtain⟨da,dc,hdv⟩:=h.dvs.sl;have hlen:=h.len;have hl4:=h.few.2.2;have hpl:=Be (key:=bQ.name) s.dev dn;rw[hdv];obtain⟨pos,hpos⟩: ∃pos,bV bQ.name s.dev dn=pos:=⟨_,rfl⟩;have hiff: ∀k (hk:k<s.dev.length),aP (s.dev[k]).name dn=true↔k<pos:=fun k hk=>by rw[<-hpos];exact O7 hr (List.getElem?_eq_getElem hk)
 have hhas: ∀hk:pos<s.dev.length,iM bQ.name s.dev dn=((s.dev[pos]).name.toList==dn.toList):=fun hk=>by
  unfold iM;rw[hpos,List.getElem?_eq_getElem hk]
 have hno:s.dev.length<=pos->iM bQ.name s.dev dn=false:=fun hk=>by
  unfold iM;rw[hpos,List.getElem?_eq_none hk]
 have hfin: ∀k,(hk:k<s.dev.length)->k=pos->(lq (s.dev[k]).name dn=0↔iM bQ.name s.dev dn=true):=fun k hk e=>by
  subst e;rw[hhas hk];have h1:aP (s.dev[k]).name dn=false:=by
   cases hb:aP (s.dev[k]).name dn with
   |false=>rfl
   |true=>exact absurd ((hiff k hk).1 hb) (Nat.lt_irrefl _)
  unfold lq;rw[h1];simp
 have hC: ∀W k,ai [] w W->k<L.ds.length-> ∃gb d x,da=some ⟨gb,0,none⟩/\W.cell? ⟨gb,k,none⟩=some (.pointer (some ⟨DW.blk d,0,none⟩))/\eX W d x/\(aP x.name dn=true↔k<pos)/\(k=pos->(lq x.name dn=0↔iM bQ.name s.dev dn=true)):=fun W k ho hk=>by
  have hE:=h.nil' ho;have hk2:k<s.dev.length:=by omega
  rcases hE.dvs.form with⟨h1,h2⟩|⟨gb,cp,h1,_,hR⟩
  ·rw[h2]at hk;simp at hk
  ·rw[hdv]at h1
   cases h1;have:=hR.cell sZ (List.getElem?_eq_getElem hk) (show(gZ L.ds[k])[0]?=_ from rfl);exact⟨gb,L.ds[k],s.dev[k],rfl,by simpa using this,hE.devs k _ _ (List.getElem?_eq_getElem hk) (List.getElem?_eq_getElem hk2),hiff k hk2,hfin k hk2⟩
 have Uz:pos<s.dev.length\/iM bQ.name s.dev dn=false:=by
  rcases Nat.lt_or_ge pos s.dev.length with h1|h1
  ·exact .inl h1
  ·exact .inr (hno h1)
 clear hiff hfin hno hhas;rw[hpos]at hpl⊢;rw[hlen]at Uz hpl hl4;change Hid _ at hdv hlen;generalize iM bQ.name s.dev dn=has at*;clear hdv hlen hpos h hr;generalize L.ds.length=N at*;change Hid _ at hC Uz;go_enter Tryz.func306,Tryz.ntmps306
 go_wp2_with fail
 go_loopg[9,10] N (fun m s9 s10 wr=> ∃i j:Nat,i<=pos/\pos<=j/\j<=N/\m=j-i/\s9=.int .i64 i/\s10=.int .i64 j/\Aside (ai [] w wr))
 case atStart=>exact⟨0,N,by omega,hpl,by omega,by omega,rfl,rfl,ai.refl _ _⟩
 case round=>
  obtain⟨i,j,hi,hj,hjN,rfl,rfl,rfl,hO⟩:=hrel;by_cases hlt:i<j
  ·obtain⟨gb,d,x,rfl,hcell,ML,hif,_⟩:=hC.out wr ((i+j)/2) hO (by omega)
   have cF:=zU d x dn wr ML;generalize d.blk=db at*;have e1:(i+j)/2<N:=by omega
   have e2:(((i:Int)+j)/2).toNat=(i+j)/2:=by omega
   clear ML;by_cases hb:(i+j)/2<pos
   ·have hsc:lq x.name dn= -1:=by unfold lq;rw[if_pos (hif.2 hb)]
    rw[hsc]at cF;replace cF:=af cF;clear hif hsc;go_wp2_with(go_at_call 307;(with_reducible refine cF.out.mono ?_);rintro e w1 ⟨rfl,aH⟩;replace aH:=af (hO.trans aH))
    go_roundg(j-((i+j)/2+1))
    case rel=>exact⟨(i+j)/2+1,j,by omega,hj,hjN,rfl,congrArg (Value.int .i64) (by omega),rfl,aH.out⟩
    case measure=>omega
   ·obtain⟨c,hsc,hc⟩: ∃c,lq x.name dn=c/\0<=c:=by
     refine⟨_,rfl,?_⟩;unfold lq;rw[if_neg (fun h=>hb (hif.1 h))];split<;>decide
    rw[hsc]at cF;replace cF:=af cF;have hcb:decide (c<0)=false:=by simp;omega
    clear hif hsc;go_wp2_with(go_at_call 307;(with_reducible refine cF.out.mono ?_);rintro e w1 ⟨rfl,aH⟩;replace aH:=af (hO.trans aH))
    go_roundg((i+j)/2-i)
    case rel=>exact⟨i,(i+j)/2,hi,by omega,by omega,rfl,rfl,congrArg (Value.int .i64) (by omega),aH.out⟩
    case measure=>omega
  ·obtain rfl:i=pos:=by omega
   by_cases hip:i<N
   ·obtain⟨gb,d,x,rfl,hcell,ML,_,hif⟩:=hC.out wr i hO hip
    have cF:=zU d x dn wr ML;generalize d.blk=db at*;replace hif:=hif rfl;cases has
    ·obtain⟨c,hsc,hc⟩: ∃c,lq x.name dn=c/\(c==0)=false:=⟨_,rfl,by simpa using hif⟩
     rw[hsc]at cF;replace cF:=af cF;clear hif hsc ML;go_wp2_with(go_at_call 307;(with_reducible refine cF.out.mono ?_);rintro e w1 ⟨rfl,aH⟩;replace aH:=af (hO.trans aH))
     go_ret2
     exact⟨rfl,aH.out⟩
    ·rw[hif.2 rfl]at cF
     replace cF:=af cF;clear hif ML;go_wp2_with(go_at_call 307;(with_reducible refine cF.out.mono ?_);rintro e w1 ⟨rfl,aH⟩;replace aH:=af (hO.trans aH))
     go_ret2
     exact⟨rfl,aH.out⟩
   ·obtain rfl:has=false:=by rcases Uz.out with h1|h1;omega;exact h1
    go_wp2_with fail
    go_ret2
    exact⟨rfl,hO⟩
theorem zV(n:Nat)(g nm:ByteArray)(L:EW)(s:EN)(dn:ByteArray)(w:World)(h:au w n g nm L s)(hr:dh bQ.name s.dev):
  Calls Tryz.prog 270 #[.pointer (some ⟨n,0,none⟩),.string dn] w fun e w'=>e=.returned (.tuple #[.int .i64 (bV bQ.name s.dev dn),.bool (iM bQ.name s.dev dn)])/\ai [] w w':=by
 have B:=Dw n g nm L s dn w h hr;obtain⟨⟨k2,k3,k4,k5,k6,k7,k8⟩,_⟩:=aM h (S:=[]) (by simp) _ (ai.refl _ _);obtain⟨da,dc,hdv⟩:=h.dvs.sl;rw[hdv]at B k8;generalize bV bQ.name s.dev dn=pos at*;generalize iM bQ.name s.dev dn=has at*;replace B:=af B;clear h hr hdv k2 k3 k4 k5 k6 k7;go_enter Tryz.func270,Tryz.ntmps270
 go_wp2_with(go_at_call 306;(with_reducible refine B.out.mono ?_);rintro e w1 ⟨rfl,hO⟩;replace hO:=af hO)
 go_ret2
 exact⟨rfl,hO.out⟩
theorem au.pend{w:World}{n:Nat}{g nm:ByteArray}{L:EW}{s:EN}(h:au w n g nm L s):
  au (w.setCell ⟨n,5,none⟩ (.bool true)) n g nm L {s with pending:=true}/\ai [n] w (w.setCell ⟨n,5,none⟩ (.bool true)):=by
 have hO2:ai [n] w (w.setCell ⟨n,5,none⟩ (.bool true)):=(ai.refl _ _).setCell (by simp) _;have hA:=h.apart;unfold EW.feet at hA;simp only[List.nodup_cons,List.mem_cons,List.mem_append,not_or]at hA;obtain⟨⟨a1,a2,a3,a4,a5,a6⟩,_⟩:=hA;refine⟨⟨heap_setCell_same _ _ _ _ _ _ h.row,h.rrow.own hO2 (by simpa using Ne.symm a1),h.tab.own hO2 (by simpa using Ne.symm a2) (by simpa using Ne.symm a3),h.its.own' hO2 (fun b hb=>?_),h.dvs.own hO2 (fun b hb=>?_),h.len,fun i d x hd hx=>?_,h.apart,h.few⟩,hO2⟩
 ·have:=bB hb
  simp;rintro rfl;exact a4 this
 ·simp;rintro rfl
  exact a5 (by simp[hb])
 ·obtain⟨k1,k2,k3⟩:=h.devs i d x hd hx
  have hm:d∈L.ds:=List.mem_of_getElem? hd;have hn2: ∀b,b∈d.blk::bJ d.a->b≠n:=fun b hb e=>by
   subst e;exact a6 (List.mem_flatMap.2 ⟨d,hm,hb⟩)
  exact⟨hO2.heap k1 (by simpa using hn2 _ (List.mem_cons_self ..)),k2.own' hO2 (fun b hb=>by simpa using hn2 b (List.mem_cons_of_mem _ (bB hb))),k3⟩
theorem jA{n:Nat}{g nm:ByteArray}{L L':EW}{s:EN}{w w0 w2:World}(h0:ai [] w w0)(hE:au w2 n g nm L' s)(hO:ai (L.feet n) w0 w2)(hs: ∀x∈L'.feet n,x∈L.feet n\/w0.heap.size<=x):
  ∃L',au (w2.setCell ⟨n,5,none⟩ (.bool true)) n g nm L' {s with pending:=true}/\ai (L.feet n) w (w2.setCell ⟨n,5,none⟩ (.bool true))/\(∀x∈L'.feet n,x∈L.feet n\/w.heap.size<=x):=by
 obtain⟨h1,h2⟩:=hE.pend;refine⟨L',h1,(h0.nil.trans hO).trans (h2.mono (fun x hx=>by simp at hx;subst hx;unfold EW.feet;simp)),fun x hx=>?_⟩;rcases hs x hx with h3|h3
 ·exact .inl h3
 ·exact .inr (Nat.le_trans h0.size h3)
theorem jB{n:Nat}{g nm:ByteArray}{L L':EW}{s:EN}{w w0 w2:World}(h0:ai [] w w0)(hE:au w2 n g nm L' s)(hO:ai (L.feet n) w0 w2)(hs: ∀x∈L'.feet n,x∈L.feet n\/w0.heap.size<=x):
  ∃L',au w2 n g nm L' s/\ai (L.feet n) w w2/\(∀x∈L'.feet n,x∈L.feet n\/w.heap.size<=x):=by
 refine⟨L',hE,h0.nil.trans hO,fun x hx=>?_⟩;rcases hs x hx with h3|h3
 ·exact .inl h3
 ·exact .inr (Nat.le_trans h0.size h3)
theorem K4(n:Nat)(g nm:ByteArray)(L:EW)(s:EN)(dn:ByteArray)(p:gT)(w:World)(h:au w n g nm L s)(hM:dR w p.a p.M)(h0:0<=p.s)(hE:jm w):
  Calls Tryz.prog 96 #[.pointer (some ⟨n,0,none⟩),.int .i64 1,.string dn,p.val] w (dD n g nm L (iN (pW s p)) w):=by
 have hW0:=dH w p;obtain⟨q0,q1,q2,q3,q4,q5⟩:=bC w p (S:=[]) (by simp) _ (ai.refl _ _);have cB:=K3 n g nm L s dn p (dS w p) (h.nil' hW0) (hM.nil' hW0) h0 (hE.nil hW0);have hC:=fun W L' s' (hk:au W n g nm L' s')=>aM hk (S:=[]) (by simp) W (ai.refl _ _)
 obtain⟨⟨k2,k3,k4,k5,k6,k7,k8⟩,_⟩:=aM h (S:=[]) (by simp) _ hW0;have hp:=fun L' s' w2 (hE:au w2 n g nm L' s') hO hs=>jA (w:=w) (L:=L) hW0 hE hO hs
 have hq:=fun L' s' w2 (hE:au w2 n g nm L' s') hO hs=>jB (w:=w) (L:=L) hW0 hE hO hs
 have cN:=gQ n ⟨L.rb,0,none⟩ (dS w p) k4;unfold dD at cB⊢;have hv:p.val=.agg #[.int .u64 p.t,.bool p.h,.int .u64 p.s,.string p.u,.string p.b,.slice p.a p.M.length p.c]:=rfl;rw[hv]at cB⊢;simp only[dS]at cB cN hW0 q0 q1 q2 q3 q4 q5 k4;unfold iN;generalize pW s p=r at*;obtain⟨r1,r2⟩:=r;simp only at cB⊢;change Hid _ at hW0 hC hp hq;replace cB:=af cB;replace cN:=af cN;clear hv h hM h0 hE k2 k3 k5 k6 k7 k8;by_cases h3:3<=r1
 ·rw[if_pos h3]
  go_enter Tryz.func96,Tryz.ntmps96
  go_wp2_with(first
   |(go_at_call 59;(with_reducible refine cN.out.mono ?_);rintro e w1 ⟨rfl,rfl⟩)
   |(go_at_call 168;go_in)
   |(go_at_call 214;(with_reducible refine cB.out.mono ?_);rintro e w2 ⟨rfl,L',hE',jk,hs'⟩;obtain⟨⟨_,_,_,y5,_,_,_⟩,_,_,f5,_,_,_⟩:=hC.out _ _ _ hE';replace hE':=af hE';replace jk:=af jk;replace hs':=af hs'))
  go_ret
  exact⟨rfl,hp.out _ _ _ hE'.out jk.out hs'.out⟩
 ·rw[if_neg h3]
  go_enter Tryz.func96,Tryz.ntmps96
  go_wp2_with(first
   |(go_at_call 59;(with_reducible refine cN.out.mono ?_);rintro e w1 ⟨rfl,rfl⟩)
   |(go_at_call 168;go_in)
   |(go_at_call 214;(with_reducible refine cB.out.mono ?_);rintro e w2 ⟨rfl,L',hE',jk,hs'⟩;replace hE':=af hE';replace jk:=af jk;replace hs':=af hs'))
  go_ret
  exact⟨rfl,hq.out _ _ _ hE'.out jk.out hs'.out⟩
theorem K5(n:Nat)(g nm:ByteArray)(L:EW)(s:EN)(dn:ByteArray)(p:gT)(w:World)(h:au w n g nm L s)(hM:dR w p.a p.M)(h0:0<=p.s)(hE:jm w):
  Calls Tryz.prog 96 #[.pointer (some ⟨n,0,none⟩),.int .i64 3,.string dn,p.val] w (dD n g nm L (iN (vG s p)) w):=by
 have hW0:=dH w p;obtain⟨q0,q1,q2,q3,q4,q5⟩:=bC w p (S:=[]) (by simp) _ (ai.refl _ _);have cB:=O0 n g nm L s dn p (dS w p) (h.nil' hW0) (hM.nil' hW0) h0 (hE.nil hW0);have hC:=fun W L' s' (hk:au W n g nm L' s')=>aM hk (S:=[]) (by simp) W (ai.refl _ _)
 obtain⟨⟨k2,k3,k4,k5,k6,k7,k8⟩,_⟩:=aM h (S:=[]) (by simp) _ hW0;have hp:=fun L' s' w2 (hE:au w2 n g nm L' s') hO hs=>jA (w:=w) (L:=L) hW0 hE hO hs
 have hq:=fun L' s' w2 (hE:au w2 n g nm L' s') hO hs=>jB (w:=w) (L:=L) hW0 hE hO hs
 have cN:=gQ n ⟨L.rb,0,none⟩ (dS w p) k4;unfold dD at cB⊢;have hv:p.val=.agg #[.int .u64 p.t,.bool p.h,.int .u64 p.s,.string p.u,.string p.b,.slice p.a p.M.length p.c]:=rfl;rw[hv]at cB⊢;simp only[dS]at cB cN hW0 q0 q1 q2 q3 q4 q5 k4;unfold iN;generalize vG s p=r at*;obtain⟨r1,r2⟩:=r;simp only at cB⊢;change Hid _ at hW0 hC hp hq;replace cB:=af cB;replace cN:=af cN;clear hv h hM h0 hE k2 k3 k5 k6 k7 k8;by_cases h3:3<=r1
 ·rw[if_pos h3]
  go_enter Tryz.func96,Tryz.ntmps96
  go_wp2_with(first
   |(go_at_call 59;(with_reducible refine cN.out.mono ?_);rintro e w1 ⟨rfl,rfl⟩)
   |(go_at_call 168;go_in)
   |(go_at_call 216;(with_reducible refine cB.out.mono ?_);rintro e w2 ⟨rfl,L',hE',jk,hs'⟩;obtain⟨⟨_,_,_,y5,_,_,_⟩,_,_,f5,_,_,_⟩:=hC.out _ _ _ hE';replace hE':=af hE';replace jk:=af jk;replace hs':=af hs'))
  go_ret
  exact⟨rfl,hp.out _ _ _ hE'.out jk.out hs'.out⟩
 ·rw[if_neg h3]
  go_enter Tryz.func96,Tryz.ntmps96
  go_wp2_with(first
   |(go_at_call 59;(with_reducible refine cN.out.mono ?_);rintro e w1 ⟨rfl,rfl⟩)
   |(go_at_call 168;go_in)
   |(go_at_call 216;(with_reducible refine cB.out.mono ?_);rintro e w2 ⟨rfl,L',hE',jk,hs'⟩;replace hE':=af hE';replace jk:=af jk;replace hs':=af hs'))
  go_ret
  exact⟨rfl,hq.out _ _ _ hE'.out jk.out hs'.out⟩
end Go.Proofs.YtedcakchekaemaaGreatDoor
namespace Go.Proofs.YtedcakchekaemaaGreatDoor
open Go.RowKit
def eY(s:EN)(dn:ByteArray)(p:gT):Int:=
 if s.online=false then 5 else if iM bQ.name s.dev dn=false then 5 else if(s.dev[bV bQ.name s.dev dn]?).any (·.on)=false then 5
 else if iC s p=false then 4 else 1
def DN(s:EN)(dn:ByteArray)(p:gT)(L:EW)(w:World)(e:Ending)(w':World):Prop:=
 ∃q,e=.returned (.tuple #[.pointer q,.int .i64 (eY s dn p)])/\ai [] w w'/\(eY s dn p=1-> ∃d x,L.ds[bV bQ.name s.dev dn]?=some d/\s.dev[bV bQ.name s.dev dn]?=some x/\x.on=true/\x.name=dn/\q=some ⟨d.blk,0,none⟩)
theorem xX(n:Nat)(g nm:ByteArray)(L:EW)(s:EN)(dn:ByteArray)(p:gT)(w:World)(h:au w n g nm L s)(hr:dh bQ.name s.dev)(h0:0<=p.s):
  Calls Tryz.prog 273 #[.pointer (some ⟨n,0,none⟩),.string dn,p.val] w (DN s dn p L w):=by
 have hW0:=dH w p;have hP:=fun W (ho:ai [] (dS w p) W)=>bC w p (S:=[]) (by simp) W ho
 have hC:=fun W (ho:ai [] w W)=>aM h (S:=[]) (by simp) W ho
 have wJ:=zV n g nm L s dn (dS w p) (h.nil' hW0) hr;have cF:=fun W (ho:ai [] w W)=>uV n g nm L s p W (h.nil' ho) h0
 have hlen:=h.len;have hl4:s.dev.length<=4:=h.few.2.2;have hD:=fun W d (hi:L.ds[bV bQ.name s.dev dn]?=some d) (ho:ai [] w W)=>wE (h.nil' ho) hi
 have MO:=fun W d x (hi:L.ds[bV bQ.name s.dev dn]?=some d) (hx:s.dev[bV bQ.name s.dev dn]?=some x) (ho:ai [] w W)=>CS d x W ((h.nil' ho).devs _ d x hi hx)
 unfold DN;have hv:p.val=.agg #[.int .u64 p.t,.bool p.h,.int .u64 p.s,.string p.u,.string p.b,.slice p.a p.M.length p.c]:=rfl;rw[hv]at cF⊢;simp only[dS]at hW0 hP wJ;obtain⟨da,dc,hdv⟩:=h.dvs.sl;rw[hdv]at hC;obtain⟨⟨k2,k3,k4,k5,k6,k7,k8⟩,_⟩:=hC _ hW0;cases hhas:iM bQ.name s.dev dn with
 |false=>
  have hc:eY s dn p=5:=by unfold eY;rw[hhas];split<;>simp
  rw[hc];rw[hhas]at wJ;generalize bV bQ.name s.dev dn=pos at*;have mV:=af hW0;change Hid _ at hP hdv hlen;replace wJ:=af wJ;clear hW0 hv hr h0 hD MO h hhas;cases hon:s.online with
  |false=>
   rw[hon]at hC;change Hid _ at hC;clear cF hon;go_enter Tryz.func273,Tryz.ntmps273
   go_wp2_with(go_at_call 270;(with_reducible refine wJ.out.mono ?_);rintro e w2 ⟨rfl,hO2⟩;have hX2:=mV.out.trans hO2;obtain⟨⟨l2,l3,l4,l5,l6,l7,l8⟩,_⟩:=hC.out _ hX2;obtain⟨r0,r1,r2,r3,r4,r5⟩:=hP.out _ hO2;replace hX2:=af hX2)
   go_ret2
   exact⟨_,rfl,hX2.out,fun h=>absurd h (by decide)⟩
  |true=>
   rw[hon]at hC;change Hid _ at hC;clear cF hon;go_enter Tryz.func273,Tryz.ntmps273
   go_wp2_with(go_at_call 270;(with_reducible refine wJ.out.mono ?_);rintro e w2 ⟨rfl,hO2⟩;have hX2:=mV.out.trans hO2;obtain⟨⟨l2,l3,l4,l5,l6,l7,l8⟩,_⟩:=hC.out _ hX2;obtain⟨r0,r1,r2,r3,r4,r5⟩:=hP.out _ hO2;replace hX2:=af hX2)
   go_ret2
   exact⟨_,rfl,hX2.out,fun h=>absurd h (by decide)⟩
 |true=>
  obtain⟨x,hx,hn⟩:=nK hhas;have hi:bV bQ.name s.dev dn<L.ds.length:=by rw[<-hlen];exact(List.getElem?_eq_some_iff.1 hx).1
  obtain⟨d,hd⟩: ∃d,L.ds[bV bQ.name s.dev dn]?=some d:=⟨_,List.getElem?_eq_getElem hi⟩;replace hD:=fun W ho=>hD W d hd ho
  replace MO:=fun W ho=>MO W d x hd hx ho
  obtain⟨gb,cp,zn,_⟩:=hD _ hW0;rw[zn]at hdv;cases hdv;replace hD:=fun(W:World) (ho:ai [] w W)=>(hD W ho: ∃gb cp,L.dv=.slice (some ⟨gb,0,none⟩) L.ds.length cp/\W.cell? ⟨gb,bV bQ.name s.dev dn,none⟩=some (.pointer (some ⟨d.blk,0,none⟩)))
  have hD2:=fun(W:World) (ho:ai [] w W)=>(show W.cell? ⟨gb,bV bQ.name s.dev dn,none⟩=some (.pointer (some ⟨d.blk,0,none⟩))by
   obtain⟨g2,c2,e2,hc2⟩:=hD W ho;rw[zn]at e2;cases e2;exact hc2)
  have aeK:L.ds.length<=4:=by omega
  rw[hhas]at wJ;have hc1:s.online=false->eY s dn p=5:=fun h=>by unfold eY;rw[if_pos h]
  have hc2:s.online=true->x.on=false->eY s dn p=5:=fun h h2=>by unfold eY;rw[if_neg (by simp[h]),if_neg (by simp[hhas]),if_pos (by rw[hx];simpa using h2)]
  have hc3:s.online=true->x.on=true->iC s p=false->eY s dn p=4:=fun h h2 h3=>by unfold eY;rw[if_neg (by simp[h]),if_neg (by simp[hhas]),if_neg (by rw[hx];simp[h2]),if_pos h3]
  have hc4:s.online=true->x.on=true->iC s p=true->eY s dn p=1:=fun h h2 h3=>by unfold eY;rw[if_neg (by simp[h]),if_neg (by simp[hhas]),if_neg (by rw[hx];simp[h2]),if_neg (by simp[h3])]
  generalize eY s dn p=lv at*;generalize bV bQ.name s.dev dn=pos at*;have mV:=af hW0;change Hid _ at hP zn hlen hD2 hd hx hn;replace wJ:=af wJ;generalize L.ds.length=N at*;clear hW0 hv hr h0 hD h hhas hl4;cases hon:s.online with
  |false=>
   obtain rfl:=hc1 hon;rw[hon]at hC;change Hid _ at hC;clear cF hon MO hc1 hc2 hc3 hc4;go_enter Tryz.func273,Tryz.ntmps273
   go_wp2_with(go_at_call 270;(with_reducible refine wJ.out.mono ?_);rintro e w2 ⟨rfl,hO2⟩;have hX2:=mV.out.trans hO2;obtain⟨⟨l2,l3,l4,l5,l6,l7,l8⟩,_⟩:=hC.out _ hX2;obtain⟨r0,r1,r2,r3,r4,r5⟩:=hP.out _ hO2;replace hX2:=af hX2)
   go_ret2
   exact⟨_,rfl,hX2.out,fun h=>absurd h (by decide)⟩
  |true=>
   rw[hon]at hC;change Hid _ at hC;rcases Bool.eq_false_or_eq_true x.on with hxo|hxo
   rotate_left
   ·
    obtain rfl:=hc2 hon hxo;rw[hxo]at MO;change Hid _ at MO;clear cF hxo hon hc1 hc2 hc3 hc4;go_enter Tryz.func273,Tryz.ntmps273
    go_wp2_with(first
     |(go_at_call 270;(with_reducible refine wJ.out.mono ?_);rintro e w2 ⟨rfl,hO2⟩;have hX2:=mV.out.trans hO2;obtain⟨⟨l2,l3,l4,l5,l6,l7,l8⟩,_⟩:=hC.out _ hX2;obtain⟨r0,r1,r2,r3,r4,r5⟩:=hP.out _ hO2;have hcl:=hD2.out _ hX2;have ZF:=af (MO.out _ hX2);replace hX2:=af hX2)
     |(go_at_call 311;(with_reducible refine ZF.out.mono ?_);rintro e w3 ⟨rfl,rfl⟩))
    go_ret2
    exact⟨_,rfl,hX2.out,fun h=>absurd h (by decide)⟩
   ·
    rw[hxo]at MO;change Hid _ at MO;cases hft:iC s p with
    |false=>
     obtain rfl:=hc3 hon hxo hft;rw[hft]at cF;change Hid _ at cF;clear hft hxo hon hc1 hc2 hc3 hc4;go_enter Tryz.func273,Tryz.ntmps273
     go_wp2_with(first
      |(go_at_call 270;(with_reducible refine wJ.out.mono ?_);rintro e w2 ⟨rfl,hO2⟩;have hX2:=mV.out.trans hO2;obtain⟨⟨l2,l3,l4,l5,l6,l7,l8⟩,_⟩:=hC.out _ hX2;obtain⟨r0,r1,r2,r3,r4,r5⟩:=hP.out _ hO2;have hcl:=hD2.out _ hX2;have ZF:=af (MO.out _ hX2);have BO:=af (cF.out _ hX2);replace hX2:=af hX2)
      |(go_at_call 311;(with_reducible refine ZF.out.mono ?_);rintro e w3 ⟨rfl,rfl⟩)
      |(go_at_call 267;(with_reducible refine BO.out.mono ?_);rintro e w3 ⟨rfl,hO3⟩;have eT:=af (hX2.out.trans hO3)))
     go_ret2
     exact⟨_,rfl,eT.out,fun h=>absurd h (by decide)⟩
    |true=>
     obtain rfl:=hc4 hon hxo hft;rw[hft]at cF;change Hid _ at cF hxo;clear hft hon hc1 hc2 hc3 hc4;go_enter Tryz.func273,Tryz.ntmps273
     go_wp2_with(first
      |(go_at_call 270;(with_reducible refine wJ.out.mono ?_);rintro e w2 ⟨rfl,hO2⟩;have hX2:=mV.out.trans hO2;obtain⟨⟨l2,l3,l4,l5,l6,l7,l8⟩,_⟩:=hC.out _ hX2;obtain⟨r0,r1,r2,r3,r4,r5⟩:=hP.out _ hO2;have hcl:=hD2.out _ hX2;have ZF:=af (MO.out _ hX2);have BO:=af (cF.out _ hX2);replace hX2:=af hX2)
      |(go_at_call 311;(with_reducible refine ZF.out.mono ?_);rintro e w3 ⟨rfl,rfl⟩)
      |(go_at_call 267;(with_reducible refine BO.out.mono ?_);rintro e w3 ⟨rfl,hO3⟩;have eT:=hX2.out.trans hO3;obtain⟨⟨m2,m3,m4,m5,m6,m7,m8⟩,_⟩:=hC.out _ eT;have hcm:=hD2.out _ eT;replace eT:=af eT))
     go_ret2
     exact⟨_,rfl,eT.out,fun _=>⟨d,x,hd.out,hx.out,hxo.out,hn.out,rfl⟩⟩
end Go.Proofs.YtedcakchekaemaaGreatDoor
namespace Go.Proofs.YtedcakchekaemaaGreatDoor
open Go.RowKit
def K6(D:List bQ)(dn:ByteArray)(l:List bD):List bQ:=if iM bQ.name D dn=true then D.set (bV bQ.name D dn) ⟨dn,true,l⟩else D.take (bV bQ.name D dn)++[⟨dn,true,l⟩]++D.drop (bV bQ.name D dn)
def lT(s:EN)(dn:ByteArray)(p:gT):Int×EN:=
 if s.online=false then(5,s)else if iC s p=false then(4,s)else if dn.toList.isEmpty=true then(7,s)
 else if iM bQ.name s.dev dn=false/\4<=s.dev.length then(8,s)
 else if(dx p.M).1≠1 then((dx p.M).1,s)
 else if jb (rX s.al dn (dx p.M).2).1≠1 then(jb (rX s.al dn (dx p.M).2).1,s)
 else(1,{s with al:=(oD s.al dn (dx p.M).2).2,dev:=K6 s.dev dn (dx p.M).2,want:=(p.seq.1+1)%256})
theorem Pj(n:Nat)(g nm:ByteArray)(L:EW)(s:EN)(dn:ByteArray)(a:Option Addr)(l:List bD)(c:Nat)(w:World)(h:au w n g nm L s)(hr:dh bQ.name s.dev)(hdn:dn.toList.isEmpty=false)(h4: ¬(iM bQ.name s.dev dn=false/\4<=s.dev.length))(hA:aY w a l)(hl:l.length<=32)
  (QM: ∀b,a.map (·.block)=some b->b∉L.feet n)(hal: ∀b,a.map (·.block)=some b->b<w.heap.size):
  Calls Tryz.prog 272 #[.pointer (some ⟨n,0,none⟩),.int .i64 (bV bQ.name s.dev dn),.bool (iM bQ.name s.dev dn),.string dn,.slice a l.length c] w (dD n g nm L (1,{s with al:=(oD s.al dn l).2,dev:=K6 s.dev dn l}) w):=by
 have hle:=Be (key:=bQ.name) s.dev dn;have hlen:=h.len;unfold K6;cases hh:iM bQ.name s.dev dn with
 |true=>
  obtain⟨x,hx,hn⟩:=nK hh;have hi:bV bQ.name s.dev dn<L.ds.length:=by rw[<-hlen];exact(List.getElem?_eq_some_iff.1 hx).1
  have:=Ph n g nm L s _ _ x dn a l c w h (List.getElem?_eq_getElem hi) hx hA hl QM;rw[hn]at this;simpa using this
 |false=>
  have:=Sn n g nm L s (bV bQ.name s.dev dn) dn a l c w h (by omega) (by rw[hh]at h4;simp at h4;omega) hdn hA hl QM hal;simpa using this
theorem Gq(n:Nat)(g nm:ByteArray)(L:EW)(s:EN)(dn:ByteArray)(p:gT)(w:World)(h:au w n g nm L s)(hr:dh bQ.name s.dev)(hM:dR w p.a p.M)(h0:0<=p.s)(hE:jm w):
  Calls Tryz.prog 217 #[.pointer (some ⟨n,0,none⟩),.string dn,p.val] w (dD n g nm L (lT s dn p) w):=by
 have hW0:=dH w p;have hP:=fun W (ho:ai [] (dS w p) W)=>bC w p (S:=[]) (by simp) W ho
 have EK:=fun W (ho:ai (L.feet n) (dS w p) W)=>bC w p (S:=L.feet n) (fun hx=>Nat.lt_irrefl _ (h.lt _ hx)) W ho
 have hC:=fun W (ho:ai [] w W)=>aM h (S:=[]) (by simp) W ho
 have hsame:=fun W (ho:ai [] w W)=>h.same ho
 have wJ:=zV n g nm L s dn (dS w p) (h.nil' hW0) hr;have cF:=fun W (ho:ai [] w W)=>uV n g nm L s p W (h.nil' ho) h0
 have cB:=fun W (ho:ai [] w W)=>zH p.a p.M p.c W (hM.nil' ho) (hE.nil ho)
 have hbl:(dx p.M).2.length<=32:=Cz p.M;have cT:=fun W a cap (ho:ai [] w W) (hA:aY W a (dx p.M).2)=>RG L.tb L.tm s.al dn a (dx p.M).2.length cap (dJ (dx p.M).2) W ((h.nil' ho).tab) (oG hA) (by have:=h.few.2.1;omega)
 have hI: ∀W W' a cap,ai [] w W->aI W.heap.size W' a cap (dx p.M).2->aY W' a (dx p.M).2/\((∀b,a.map (·.block)=some b->b∉L.feet n)/\ ∀b,a.map (·.block)=some b->b<W'.heap.size):=fun W W' a cap ho hR=>
  ⟨hR.at_ (by omega),fun b hb hx=>by have:=h.lt b hx;have:=(nJ hR b hb).1;have:=ho.size;omega,fun b hb=>hR.blt hb⟩
 have QS:=fun W a cap (ho:ai [] w W) (hA:aY W a (dx p.M).2) (hf:(∀b,a.map (·.block)=some b->b∉L.feet n)/\ ∀b,a.map (·.block)=some b->b<W.heap.size) (hdn:dn.toList.isEmpty=false) (h4: ¬(iM bQ.name s.dev dn=false/\4<=s.dev.length))=>Pj n g nm L s dn a (dx p.M).2 cap W (h.nil' ho) hr hdn h4 hA hbl hf.1 hf.2
 have Xd:=fun W L' (s':EN) (hk:au W n g nm L' s') (hf:iC s' p=true)=>qP n g nm L' s' p W hk h0 hf
 have hfe: ∀W (L':EW),ai [] w W->(∀y∈L'.feet n,y∈L.feet n\/W.heap.size<=y)->(∀y∈L'.feet n,y∈L.feet n\/w.heap.size<=y):=fun W L' ho hf y hy=>by
  rcases hf y hy with h1|h1
  ·exact .inl h1
  ·exact .inr (Nat.le_trans ho.size h1)
 simp only[lN]at cT;obtain⟨da,dc,hdv⟩:=h.dvs.sl;rw[hdv]at hC;have hlen:=h.len;have hl4:s.dev.length<=4:=h.few.2.2;unfold dD at QS;unfold kD at cB;unfold dD lT;have hv:p.val=.agg #[.int .u64 p.t,.bool p.h,.int .u64 p.s,.string p.u,.string p.b,.slice p.a p.M.length p.c]:=rfl;rw[hv]at cF Xd⊢;simp only[dS]at hW0 hP EK wJ;obtain⟨⟨k2,k3,k4,k5,k6,k7,k8⟩,_⟩:=hC _ hW0;have hpos:bV bQ.name s.dev dn<=s.dev.length:=Be _ _;generalize hhas:iM bQ.name s.dev dn=has at*;generalize hps:bV bQ.name s.dev dn=pos at*;have hbo:(dx p.M).1≠1\/(dx p.M).1=1:=by omega
 generalize hdd:K6 s.dev dn (dx p.M).2=dd at*;generalize hss:(oD s.al dn (dx p.M).2).2=sal at*;generalize hmm:(rX s.al dn (dx p.M).2).1=mm at*;generalize dx p.M=bo at*;obtain⟨X4,Xc⟩:=bo;simp only at*;change Hid _ at hhas hps hdd hss hmm hlen hdv;have mV:=af hW0;change Hid _ at hP EK hC hsame cB cT hI hfe;replace wJ:=af wJ;clear hW0 hv hr hM hE h0;cases hon:s.online with
 |false=>
  rw[if_pos rfl];rw[hon]at hC;change Hid _ at cF;clear Xd QS hon h;go_enter Tryz.func217,Tryz.ntmps217
  go_wp2_with(first
   |(go_at_call 270;(with_reducible refine wJ.out.mono ?_);rintro e w2 ⟨rfl,hO2⟩;have hX2:=mV.out.trans hO2;obtain⟨⟨l2,l3,l4,l5,l6,l7,l8⟩,_⟩:=hC.out _ hX2;obtain⟨r0,r1,r2,r3,r4,r5⟩:=hP.out _ hO2;have BO:=af (cF.out _ hX2);replace hX2:=af hX2;replace hO2:=af hO2))
  go_ret
  exact⟨rfl,hsame.out _ hX2.out⟩
 |true=>
  rw[if_neg (by simp)];rw[hon]at hC;cases hft:iC s p with
  |false=>
   rw[if_pos rfl];simp only[hft]at cF;change Hid _ at cF;clear Xd QS hon hft h;go_enter Tryz.func217,Tryz.ntmps217
   go_wp2_with(first
    |(go_at_call 270;(with_reducible refine wJ.out.mono ?_);rintro e w2 ⟨rfl,hO2⟩;have hX2:=mV.out.trans hO2;obtain⟨⟨l2,l3,l4,l5,l6,l7,l8⟩,_⟩:=hC.out _ hX2;obtain⟨r0,r1,r2,r3,r4,r5⟩:=hP.out _ hO2;have BO:=af (cF.out _ hX2);replace hX2:=af hX2;replace hO2:=af hO2)
    |(go_at_call 267;(with_reducible refine BO.out.mono ?_);rintro e w3 ⟨rfl,hO3⟩;have eT:=hX2.out.trans hO3;have dI:=hO2.out.trans hO3;obtain⟨⟨m2,m3,m4,m5,m6,m7,m8⟩,_⟩:=hC.out _ eT;obtain⟨t0,t1,t2,t3,t4,t5⟩:=hP.out _ dI;have cB3:=af (cB.out _ eT);replace eT:=af eT;replace dI:=af dI))
   go_ret
   exact⟨rfl,hsame.out _ eT.out⟩
  |true=>
   rw[if_neg (by simp)];simp only[hft]at cF;change Hid _ at cF;cases hdn:dn.toList.isEmpty with
   |true=>
    rw[if_pos rfl];have ZG:dn.toList=[]:=by simpa using hdn
    have ab2:(dn.toList==[])=true:=by rw[ZG];rfl
    clear Xd QS hon hft h ZG;go_enter Tryz.func217,Tryz.ntmps217
    go_wp2_with(first
     |(go_at_call 270;(with_reducible refine wJ.out.mono ?_);rintro e w2 ⟨rfl,hO2⟩;have hX2:=mV.out.trans hO2;obtain⟨⟨l2,l3,l4,l5,l6,l7,l8⟩,_⟩:=hC.out _ hX2;obtain⟨r0,r1,r2,r3,r4,r5⟩:=hP.out _ hO2;have BO:=af (cF.out _ hX2);replace hX2:=af hX2;replace hO2:=af hO2)
     |(go_at_call 267;(with_reducible refine BO.out.mono ?_);rintro e w3 ⟨rfl,hO3⟩;have eT:=hX2.out.trans hO3;have dI:=hO2.out.trans hO3;obtain⟨⟨m2,m3,m4,m5,m6,m7,m8⟩,_⟩:=hC.out _ eT;obtain⟨t0,t1,t2,t3,t4,t5⟩:=hP.out _ dI;have cB3:=af (cB.out _ eT);replace eT:=af eT;replace dI:=af dI))
    go_ret
    exact⟨rfl,hsame.out _ eT.out⟩
   |false=>
    rw[if_neg (by simp)];have ab2:(dn.toList==[])=false:=by cases hq:dn.toList with|nil=>rw[hq]at hdn;cases hdn|cons=>rfl
    by_cases h4:has=false/\4<=s.dev.length
    ·rw[if_pos h4]
     obtain⟨rfl,h4⟩:=h4;have h5:4<=L.ds.length:=by rw[<-hlen.out];exact h4
     have h6:(4:Int)<=(L.ds.length:Int):=by omega
     clear Xd QS hon hft h hdn h4 hl4;go_enter Tryz.func217,Tryz.ntmps217
     go_wp2_with(first
      |(go_at_call 270;(with_reducible refine wJ.out.mono ?_);rintro e w2 ⟨rfl,hO2⟩;have hX2:=mV.out.trans hO2;obtain⟨⟨l2,l3,l4,l5,l6,l7,l8⟩,_⟩:=hC.out _ hX2;obtain⟨r0,r1,r2,r3,r4,r5⟩:=hP.out _ hO2;have BO:=af (cF.out _ hX2);replace hX2:=af hX2;replace hO2:=af hO2)
      |(go_at_call 267;(with_reducible refine BO.out.mono ?_);rintro e w3 ⟨rfl,hO3⟩;have eT:=hX2.out.trans hO3;have dI:=hO2.out.trans hO3;obtain⟨⟨m2,m3,m4,m5,m6,m7,m8⟩,_⟩:=hC.out _ eT;obtain⟨t0,t1,t2,t3,t4,t5⟩:=hP.out _ dI;have cB3:=af (cB.out _ eT);replace eT:=af eT;replace dI:=af dI))
     go_ret
     exact⟨rfl,hsame.out _ eT.out⟩
    ·rw[if_neg h4]
     replace QS:=fun W a cap ho hA hf=>QS W a cap ho hA hf hdn h4
     have hbr:has=true\/(has=false/\decide ((4:Int)<=(L.ds.length:Int))=false):=by
      rw[hlen.out]at h4;cases has
      ·simp at h4
       exact .inr ⟨rfl,by simp;omega⟩
      ·exact .inl rfl
     have cK1:=af fun W L' hk=>Xd W L' {s with al:=sal,dev:=dd} hk (show iC {s with al:=sal,dev:=dd} p=true from hft)
     have hln:n∈L.feet n:=by unfold EW.feet;simp
     have hrb: ∀(L':EW),L'.rb∈L'.feet n:=fun L'=>by unfold EW.feet;simp
     change Hid _ at QS hrb;have Ia:=af hon;clear h4 Xd hon hft h hdn hl4 k2 k3 k4 k5 k6 k7 k8;by_cases hb1:X4=1
     ·subst hb1
      rw[if_neg (by simp)];by_cases hc1:jb mm=1
      ·rw[if_neg (by simpa using hc1)]
       have hc2:(jb mm !=1)=false:=by simpa using hc1
       clear hc1;rcases hbr with rfl|⟨rfl,h6⟩
       all_goals
        go_enter Tryz.func217,Tryz.ntmps217
        go_wp2_with(first
         |(go_at_call 270;(with_reducible refine wJ.out.mono ?_);rintro e w2 ⟨rfl,hO2⟩;have hX2:=mV.out.trans hO2;obtain⟨⟨l2,l3,l4,l5,l6,l7,l8⟩,_⟩:=hC.out _ hX2;obtain⟨r0,r1,r2,r3,r4,r5⟩:=hP.out _ hO2;have BO:=af (cF.out _ hX2);replace hX2:=af hX2;replace hO2:=af hO2)
         |(go_at_call 267;(with_reducible refine BO.out.mono ?_);rintro e w3 ⟨rfl,hO3⟩;have eT:=hX2.out.trans hO3;have dI:=hO2.out.trans hO3;obtain⟨⟨m2,m3,m4,m5,m6,m7,m8⟩,_⟩:=hC.out _ eT;obtain⟨t0,t1,t2,t3,t4,t5⟩:=hP.out _ dI;have cB3:=af (cB.out _ eT);replace eT:=af eT;replace dI:=af dI)
         |(go_at_call 260;(with_reducible refine cB3.out.mono ?_);rintro e w4 ⟨a,cap,rfl,oN,hO4⟩;have oP:=eT.out.trans hO4;have ko:=dI.out.trans hO4;obtain⟨⟨z2,z3,z4,z5,z6,z7,z8⟩,_⟩:=hC.out _ oP;obtain⟨vD,BP⟩:=hI.out _ _ _ _ eT.out oN;have X6:=af (cT.out _ _ cap oP vD);replace vD:=af vD;replace BP:=af BP;replace oP:=af oP;replace ko:=af ko;clear oN hO4)
         |(go_at_call 271;(with_reducible refine X6.out.mono ?_);rintro e w5 ⟨rfl,aB⟩;have gW:=oP.out.trans aB;have MP:=ko.out.trans aB;have ZH:=af (QS.out _ _ cap gW (vD.out.nil' aB) ⟨BP.out.1,fun b hb=>Nat.lt_of_lt_of_le (BP.out.2 b hb) aB.size⟩);replace gW:=af gW;replace MP:=af MP;clear aB)
         |(go_at_call 261;(with_reducible refine(qQ _ _).mono ?_);rintro e w6 ⟨rfl,rfl⟩)
         |(go_at_call 272;(with_reducible refine ZH.out.mono ?_);rintro e w7 ⟨rfl,L7,UE,gU,hf7⟩;obtain⟨u0,u1,u2,u3,u4,u5⟩:=EK.out _ (MP.out.nil.trans gU);have cK7:=af (cK1.out _ _ UE);replace UE:=af UE;replace gU:=af gU;replace hf7:=af hf7)
         |(go_at_call 269;(with_reducible refine cK7.out.mono ?_);rintro e w8 ⟨rfl,UF,iV⟩;replace UF:=af UF;replace iV:=af iV))
        go_ret
        have ZI:=UF.out;rw[Ia.out]at ZI;refine⟨rfl,lS (gW.out.nil.trans gU.out) (hfe.out _ _ gW.out hf7.out) ⟨L7,ZI,iV.out.mono (fun y hy=>by simp at hy;subst hy;exact hrb.out L7),fun y hy=>.inl hy⟩⟩
      ·rw[if_pos (by simpa using hc1)]
       have hc2:(jb mm !=1)=true:=by simpa using hc1
       clear hc1;rcases hbr with rfl|⟨rfl,h6⟩
       all_goals
        go_enter Tryz.func217,Tryz.ntmps217
        go_wp2_with(first
         |(go_at_call 270;(with_reducible refine wJ.out.mono ?_);rintro e w2 ⟨rfl,hO2⟩;have hX2:=mV.out.trans hO2;obtain⟨⟨l2,l3,l4,l5,l6,l7,l8⟩,_⟩:=hC.out _ hX2;obtain⟨r0,r1,r2,r3,r4,r5⟩:=hP.out _ hO2;have BO:=af (cF.out _ hX2);replace hX2:=af hX2;replace hO2:=af hO2)
         |(go_at_call 267;(with_reducible refine BO.out.mono ?_);rintro e w3 ⟨rfl,hO3⟩;have eT:=hX2.out.trans hO3;have dI:=hO2.out.trans hO3;obtain⟨⟨m2,m3,m4,m5,m6,m7,m8⟩,_⟩:=hC.out _ eT;obtain⟨t0,t1,t2,t3,t4,t5⟩:=hP.out _ dI;have cB3:=af (cB.out _ eT);replace eT:=af eT;replace dI:=af dI)
         |(go_at_call 260;(with_reducible refine cB3.out.mono ?_);rintro e w4 ⟨a,cap,rfl,oN,hO4⟩;have oP:=eT.out.trans hO4;have ko:=dI.out.trans hO4;obtain⟨⟨z2,z3,z4,z5,z6,z7,z8⟩,_⟩:=hC.out _ oP;obtain⟨vD,BP⟩:=hI.out _ _ _ _ eT.out oN;have X6:=af (cT.out _ _ cap oP vD);replace vD:=af vD;replace BP:=af BP;replace oP:=af oP;replace ko:=af ko;clear oN hO4)
         |(go_at_call 271;(with_reducible refine X6.out.mono ?_);rintro e w5 ⟨rfl,aB⟩;have gW:=oP.out.trans aB;have MP:=ko.out.trans aB;have ZH:=af (QS.out _ _ cap gW (vD.out.nil' aB) ⟨BP.out.1,fun b hb=>Nat.lt_of_lt_of_le (BP.out.2 b hb) aB.size⟩);replace gW:=af gW;replace MP:=af MP;clear aB)
         |(go_at_call 261;(with_reducible refine(qQ _ _).mono ?_);rintro e w6 ⟨rfl,rfl⟩))
        go_ret
        exact⟨rfl,hsame.out _ gW.out⟩
     ·rw[if_pos hb1]
      have hb2:(X4 !=1)=true:=by simpa using hb1
      clear hb1;rcases hbr with rfl|⟨rfl,h6⟩
      all_goals
       go_enter Tryz.func217,Tryz.ntmps217
       go_wp2_with(first
        |(go_at_call 270;(with_reducible refine wJ.out.mono ?_);rintro e w2 ⟨rfl,hO2⟩;have hX2:=mV.out.trans hO2;obtain⟨⟨l2,l3,l4,l5,l6,l7,l8⟩,_⟩:=hC.out _ hX2;obtain⟨r0,r1,r2,r3,r4,r5⟩:=hP.out _ hO2;have BO:=af (cF.out _ hX2);replace hX2:=af hX2;replace hO2:=af hO2)
        |(go_at_call 267;(with_reducible refine BO.out.mono ?_);rintro e w3 ⟨rfl,hO3⟩;have eT:=hX2.out.trans hO3;have dI:=hO2.out.trans hO3;obtain⟨⟨m2,m3,m4,m5,m6,m7,m8⟩,_⟩:=hC.out _ eT;obtain⟨t0,t1,t2,t3,t4,t5⟩:=hP.out _ dI;have cB3:=af (cB.out _ eT);replace eT:=af eT;replace dI:=af dI)
        |(go_at_call 260;(with_reducible refine cB3.out.mono ?_);rintro e w4 ⟨a,cap,rfl,oN,hO4⟩;have oP:=eT.out.trans hO4;have ko:=dI.out.trans hO4;obtain⟨⟨z2,z3,z4,z5,z6,z7,z8⟩,_⟩:=hC.out _ oP;obtain⟨vD,BP⟩:=hI.out _ _ _ _ eT.out oN;have X6:=af (cT.out _ _ cap oP vD);replace vD:=af vD;replace BP:=af BP;replace oP:=af oP;replace ko:=af ko;clear oN hO4))
       go_ret
       exact⟨rfl,hsame.out _ oP.out⟩
end Go.Proofs.YtedcakchekaemaaGreatDoor
namespace Go.Proofs.YtedcakchekaemaaGreatDoor
open Go.RowKit
def qo(s:EN)(dn:ByteArray)(p:gT):Int×EN:=
 if eY s dn p≠1 then(eY s dn p,s)else match s.dev[bV bQ.name s.dev dn]? with
 |none=>(5,s)
 |some x=>if(fT (fZ s.al dn) p.M x.items).1≠1 then((fT (fZ s.al dn) p.M x.items).1,s)
  else(1,{s with dev:=s.dev.set (bV bQ.name s.dev dn) ⟨x.name,true,(fT (fZ s.al dn) p.M x.items).2⟩,want:=(p.seq.1+1)%256})
def lU(s:EN)(dn:ByteArray)(p:gT):Int×EN:=
 if eY s dn p≠1 then(eY s dn p,s)else match s.dev[bV bQ.name s.dev dn]? with
 |none=>(5,s)
 |some x=>(1,{s with al:=aD s.al dn,dev:=s.dev.set (bV bQ.name s.dev dn) ⟨x.name,false,x.items⟩,want:=(p.seq.1+1)%256})
theorem qR{s:EN}{dn:ByteArray}{p:gT}(h:eY s dn p=1):s.online=true/\iM bQ.name s.dev dn=true/\(∃x,s.dev[bV bQ.name s.dev dn]?=some x/\x.on=true/\x.name=dn)/\iC s p=true:=by
 unfold eY at h;split at h
 ·cases h
 ·rename_i h1
  split at h
  ·cases h
  ·rename_i h2
   split at h
   ·cases h
   ·rename_i h3
    split at h
    ·cases h
    ·rename_i h4
     have h2':iM bQ.name s.dev dn=true:=by simpa using h2
     obtain⟨x,hx,hn⟩:=nK h2';rw[hx]at h3;exact⟨by simpa using h1,h2',⟨x,hx,by simpa using h3,hn⟩,by simpa using h4⟩
theorem xY{n:Nat}{g nm:ByteArray}{L:EW}{s:EN}{dn:ByteArray}{p:gT}{w:World}(h:au w n g nm L s)(hr:dh bQ.name s.dev)(h0:0<=p.s)(h1:eY s dn p=1){d:DW}(hd:L.ds[bV bQ.name s.dev dn]?=some d):
  Calls Tryz.prog 273 #[.pointer (some ⟨n,0,none⟩),.string dn,p.val] w fun e w'=>e=.returned (.tuple #[.pointer (some ⟨d.blk,0,none⟩),.int .i64 1])/\ai [] w w':=
 (xX n g nm L s dn p w h hr h0).mono (by
  rintro e w' ⟨q,rfl,hO,hq⟩;obtain⟨d',x,hd',_,_,_,rfl⟩:=hq h1;rw[hd]at hd';cases hd';exact⟨by rw[h1],hO⟩)
theorem xZ{n:Nat}{g nm:ByteArray}{L:EW}{s:EN}{dn:ByteArray}{p:gT}{w:World}(h:au w n g nm L s)(hr:dh bQ.name s.dev)(h0:0<=p.s):
  Calls Tryz.prog 273 #[.pointer (some ⟨n,0,none⟩),.string dn,p.val] w fun e w'=> ∃q,e=.returned (.tuple #[.pointer q,.int .i64 (eY s dn p)])/\ai [] w w':=
 (xX n g nm L s dn p w h hr h0).mono (by
  rintro e w' ⟨q,rfl,hO,hq⟩;exact⟨q,rfl,hO⟩)
theorem Pk{W:World}{n:Nat}{g nm:ByteArray}{L:EW}{s:EN}(h:au W n g nm L s){i:Nat}{d:DW}{x:bQ}(hi:L.ds[i]?=some d)(hx:s.dev[i]?=some x)(hon:x.on=true)(a:Option Addr)(l:List bD)(c:Nat)(hA:aY W a l)(hl:l.length<=32):
  Calls Tryz.prog 274 #[.pointer (some ⟨d.blk,0,none⟩),.slice a l.length c] W fun e w'=>e=.returned (.int .i64 0)/\ ∃L',au w' n g nm L' {s with dev:=s.dev.set i ⟨x.name,true,l⟩}/\ai (L.feet n) W w'/\(∀y∈L'.feet n,y∈L.feet n\/W.heap.size<=y):=by
 refine(KN d x a l c W (h.devs i d x hi hx) hon hA hl).mono ?_;rintro e w' ⟨rfl,d',hb,hP,hO,hf⟩;obtain⟨h1,h2⟩:=h.setDev (x':=⟨x.name,true,l⟩) hi hP hb hO hf;exact⟨rfl,_,h1,hO.mono (fun y hy=>by simp at hy;subst hy;exact(nP L n i hi).symm.subset (List.mem_cons_self ..)),h2⟩
theorem DR{W:World}{n:Nat}{g nm:ByteArray}{L:EW}{s:EN}(h:au W n g nm L s){i:Nat}{d:DW}{x:bQ}(hi:L.ds[i]?=some d)(hx:s.dev[i]?=some x):
  Calls Tryz.prog 266 #[.pointer (some ⟨d.blk,0,none⟩)] W fun e w'=>(∃c,e=.returned (.int .i64 c))/\au w' n g nm L {s with dev:=s.dev.set i ⟨x.name,false,x.items⟩}/\ai (L.feet n) W w':=by
 have hN:=(nP L n i hi).nodup_iff.1 h.apart;refine(KO d x W (h.devs i d x hi hx) (fun e=>(List.nodup_cons.1 hN).1 (List.mem_append_left _ (bB e)))).mono ?_;rintro e w' ⟨hc,hP,hO⟩;obtain⟨h1,h2⟩:=h.setDev (x':=⟨x.name,false,x.items⟩) hi hP rfl hO (fun b hb=>.inl hb);obtain⟨hl,he⟩:=List.getElem?_eq_some_iff.1 hi;have e2:L.ds.set i d=L.ds:=by rw[<-he];exact List.set_getElem_self _
 rw[e2]at h1;exact⟨hc,h1,hO.mono (fun y hy=>by simp at hy;subst hy;exact(nP L n i hi).symm.subset (List.mem_cons_self ..))⟩
theorem Pm{W:World}{n:Nat}{g nm:ByteArray}{L:EW}{s:EN}(h:au W n g nm L s)(dn:ByteArray):
  Calls Tryz.prog 275 #[.pointer (some ⟨L.tb,0,none⟩),.string dn] W fun e w'=>(∃c,e=.returned (.int .i64 c))/\au w' n g nm L {s with al:=aD s.al dn}/\ai (L.feet n) W w':=by
 refine(CQ L.tb L.tm s.al dn W h.tab (by have:=h.few.2.1;omega)).mono ?_;rintro e w' ⟨rfl,hT,hO⟩;exact⟨⟨_,rfl⟩,h.setTab (hO.mono (by simp)) hT (Nat.le_trans (List.length_filter_le _ _) h.few.2.1),hO.mono (fun y hy=>by simp at hy;subst hy;unfold EW.feet;simp)⟩
theorem DT(a:ByteArray)(b:Bool)(c:Option Addr)(l k:Nat)(w:World):(Instr.field 46 (.agg #[.string a,.bool b,.slice c l k]) 2).run Tryz.prog w=.ok (.slice c l k) w:=by kernel_rfl
theorem Pn(n:Nat)(g nm:ByteArray)(L:EW)(s:EN)(dn:ByteArray)(p:gT)(w:World)(h:au w n g nm L s)(hr:dh bQ.name s.dev)(h0:0<=p.s):
  Calls Tryz.prog 219 #[.pointer (some ⟨n,0,none⟩),.string dn,p.val] w (dD n g nm L (lU s dn p) w):=by
 have hW0:=dH w p;have EK:=fun W (ho:ai (L.feet n) (dS w p) W)=>bC w p (S:=L.feet n) (fun hx=>Nat.lt_irrefl _ (h.lt _ hx)) W ho
 obtain⟨p0,p1,p2,p3,p4,p5⟩:=bC w p (S:=[]) (by simp) _ (ai.refl _ _);have hv:p.val=.agg #[.int .u64 p.t,.bool p.h,.int .u64 p.s,.string p.u,.string p.b,.slice p.a p.M.length p.c]:=rfl;unfold dD lU;by_cases h1:eY s dn p=1
 ·rw[if_neg (by simpa using h1)]
  obtain⟨_,_,⟨x,hx,hon,hn⟩,hft⟩:=qR h1;have hi:bV bQ.name s.dev dn<L.ds.length:=by rw[<-h.len];exact(List.getElem?_eq_some_iff.1 hx).1
  obtain⟨d,hd⟩: ∃d,L.ds[bV bQ.name s.dev dn]?=some d:=⟨_,List.getElem?_eq_getElem hi⟩;have cL:=xY (h.nil' hW0) hr h0 h1 hd;rw[hx];simp only;have X7:=fun W (ho:ai [] w W)=>h.nil' ho
  have cD:=fun W (ho:ai [] w W)=>DR (h.nil' ho) hd hx
  have hC:=fun W s' (hk:au W n g nm L s')=>aM hk (S:=[]) (by simp) W (ai.refl _ _)
  have cR:=fun W s' (hk:au W n g nm L s')=>Pm hk dn
  have cK:=fun W (s':EN) (hk:au W n g nm L s') (hf:iC s' p=true)=>qP n g nm L s' p W hk h0 hf
  rw[hv]at cL cK⊢;simp only[dS]at hW0 EK cL p0 p1 p2 p3 p4 p5;have QK:=af (show iC {s with dev:=s.dev.set (bV bQ.name s.dev dn) ⟨x.name,false,x.items⟩,al:=aD s.al dn} p=true from hft);have hrb:L.rb∈L.feet n:=by unfold EW.feet;simp
  generalize d.blk=db at*;generalize bV bQ.name s.dev dn=pos at*;change Hid _ at EK cD hC cR cK hrb;replace hW0:=af hW0;replace cL:=af cL;clear h hr h0 h1 hv hx hon hn hft hi hd X7;go_enter Tryz.func219,Tryz.ntmps219
  go_wp2_with(first
   |(go_at_call 273;(with_reducible refine cL.out.mono ?_);rintro e w2 ⟨rfl,hO2⟩;have hX2:=hW0.out.trans hO2;have cD2:=af (cD.out _ hX2);replace hX2:=af hX2;replace hO2:=af hO2)
   |(go_at_call 266;(with_reducible refine cD2.out.mono ?_);rintro e w3 ⟨⟨c3,rfl⟩,ji,hO3⟩;obtain⟨⟨_,_,_,_,_,k7,_⟩,_⟩:=hC.out _ _ ji;have cR3:=af (cR.out _ _ ji);replace hO3:=af hO3;clear ji)
   |(go_at_call 275;(with_reducible refine cR3.out.mono ?_);rintro e w4 ⟨⟨c4,rfl⟩,jN,hO4⟩;have ko:=hO3.out.trans hO4;obtain⟨u0,u1,u2,u3,u4,u5⟩:=EK.out _ (hO2.out.nil.trans ko);have cK4:=af (cK.out _ _ jN QK.out);replace ko:=af ko;clear jN hO4)
   |(go_at_call 269;(with_reducible refine cK4.out.mono ?_);rintro e w5 ⟨rfl,iF,aB⟩;replace iF:=af iF;replace aB:=af aB))
  go_ret
  exact⟨rfl,L,iF.out,(hX2.out.nil.trans ko.out).trans (aB.out.mono (fun y hy=>by simp at hy;subst hy;exact hrb.out)),fun y hy=>.inl hy⟩
 ·rw[if_pos h1]
  have cL:=xZ (dn:=dn) (h.nil' hW0) hr h0;have hsame:=af fun W (ho:ai [] w W)=>h.same ho
  have hb:(eY s dn p !=1)=true:=by simpa using h1
  rw[hv]at cL⊢;simp only[dS]at hW0 cL p0 p1 p2 p3 p4 p5;generalize eY s dn p=lv at*;replace hW0:=af hW0;replace cL:=af cL;clear h hr h0 h1 hv EK;go_enter Tryz.func219,Tryz.ntmps219
  go_wp2_with(go_at_call 273;(with_reducible refine cL.out.mono ?_);rintro e w2 ⟨q2,rfl,hO2⟩;have hX2:=af (hW0.out.trans hO2);clear hO2)
  go_ret
  exact⟨rfl,hsame.out _ hX2.out⟩
theorem Sr(n:Nat)(g nm:ByteArray)(L:EW)(s:EN)(dn:ByteArray)(p:gT)(w:World)(h:au w n g nm L s)(hr:dh bQ.name s.dev)(hM:dR w p.a p.M)(h0:0<=p.s)(hE:jm w):
  Calls Tryz.prog 218 #[.pointer (some ⟨n,0,none⟩),.string dn,p.val] w (dD n g nm L (qo s dn p) w):=by
 have hW0:=dH w p;have hP:=fun W (ho:ai [] (dS w p) W)=>bC w p (S:=[]) (by simp) W ho
 have EK:=fun W (ho:ai (L.feet n) (dS w p) W)=>bC w p (S:=L.feet n) (fun hx=>Nat.lt_irrefl _ (h.lt _ hx)) W ho
 obtain⟨p0,p1,p2,p3,p4,p5⟩:=bC w p (S:=[]) (by simp) _ (ai.refl _ _);have hv:p.val=.agg #[.int .u64 p.t,.bool p.h,.int .u64 p.s,.string p.u,.string p.b,.slice p.a p.M.length p.c]:=rfl;have hsame:=af fun W (ho:ai [] w W)=>h.same ho
 unfold dD qo;by_cases h1:eY s dn p=1
 ·rw[if_neg (by simpa using h1)]
  obtain⟨_,_,⟨x,hx,hon,hn⟩,hft⟩:=qR h1;have hi:bV bQ.name s.dev dn<L.ds.length:=by rw[<-h.len];exact(List.getElem?_eq_some_iff.1 hx).1
  obtain⟨d,hd⟩: ∃d,L.ds[bV bQ.name s.dev dn]?=some d:=⟨_,List.getElem?_eq_getElem hi⟩;have cL:=xY (h.nil' hW0) hr h0 h1 hd;rw[hx];simp only;have hxl:=(h.devs _ d x hd hx).2.2.2;have cV:=fun W (ho:ai [] w W)=>uM d x W ((h.nil' ho).devs _ d x hd hx)
  have hC:=fun W (ho:ai [] w W)=>aM h (S:=[]) (by simp) W ho
  have cU:=fun W a cap (ho:ai [] w W) (hA:aY W a x.items)=>CJ a x.items cap p.a p.M p.c L.tb L.tm s.al dn W hA (hM.nil' ho) (h.tab.own ho (by simp) (by simp)) (by omega) (hE.nil ho)
  have Ey:=Nat.le_trans (zJ (fZ s.al dn) p.M x.items) hxl;have hat:=fun W a cap B (hR:aI B W a cap x.items)=>(hR.at_ (by omega):aY W a x.items)
  have cT:=fun W a cap (ho:ai [] w W) (hA:aY W a (fT (fZ s.al dn) p.M x.items).2)=>Pk (h.nil' ho) hd hx hon a _ cap hA Ey
  have cK:=fun W L' (s':EN) (hk:au W n g nm L' s') (hf:iC s' p=true)=>qP n g nm L' s' p W hk h0 hf
  have hfe: ∀W (L':EW),ai [] w W->(∀y∈L'.feet n,y∈L.feet n\/W.heap.size<=y)->(∀y∈L'.feet n,y∈L.feet n\/w.heap.size<=y):=fun W L' ho hf y hy=>by
   rcases hf y hy with h1|h1
   ·exact .inl h1
   ·exact .inr (Nat.le_trans ho.size h1)
  unfold kD at cU;rw[hv]at cL cK⊢;simp only[dS]at hW0 hP EK cL p0 p1 p2 p3 p4 p5;have QK:=af (fun l=>(show iC {s with dev:=s.dev.set (bV bQ.name s.dev dn) ⟨x.name,true,l⟩} p=true from hft));have hrb: ∀(L':EW),L'.rb∈L'.feet n:=fun L'=>by unfold EW.feet;simp
  have hS:=fun W (ho:ai [] (w.alloc (.cells #[.int .u64 p.t,.bool p.h,.int .u64 p.s,.string p.u,.string p.b,.slice p.a p.M.length p.c] 54)) W)=>(show W.cell? ⟨n,7,none⟩=some (.pointer (some ⟨L.tb,0,none⟩))/\W.cell? ⟨w.heap.size,5,none⟩=some (.slice p.a p.M.length p.c)from⟨(hC _ (hW0.trans ho)).1.2.2.2.2.2.1,(hP _ ho).2.2.2.2.2⟩)
  generalize fT (fZ s.al dn) p.M x.items=up at*;obtain⟨Zg,up2⟩:=up;simp only at*;generalize d.blk=db at*;generalize bV bQ.name s.dev dn=pos at*;have hvi:=DT;change Hid _ at hP EK cV cU cT hat hC cK hrb hfe hS;replace hW0:=af hW0;replace cL:=af cL;have WW:=af Ey;clear h hr h0 h1 hv hx hon hn hft hi hd hM hE Ey hxl;by_cases hu:Zg=1
  ·subst hu
   rw[if_neg (by simp)];go_enter Tryz.func218,Tryz.ntmps218
   go_wp2_with(go_at_call 273;(with_reducible refine cL.out.mono ?_);rintro e w2 ⟨rfl,hO2⟩;have hX2:=hW0.out.trans hO2;have Xe:=af (cV.out _ hX2.drew);obtain⟨l7,l5⟩:=hS.out _ hO2;replace hX2:=af hX2.drew;replace hO2:=af hO2.drew)
   go_region_held3(fun W=>W.cell? ⟨n,7,none⟩=some (.pointer (some ⟨L.tb,0,none⟩))/\W.cell? ⟨w.heap.size,5,none⟩=some (.slice p.a p.M.length p.c))
    (first|go_keep|exact kA|exact kB)
    ((first
      |(go_at_call 62;(with_reducible refine Xe.out.mono ?_);rintro e w3 ⟨a3,Xf,rfl,eP,hO3⟩;have eT:=hX2.out.trans hO3;have dI:=hO2.out.trans hO3;have kA:=hS.out _ dI;have cU3:=af (cU.out _ _ Xf eT (hat.out _ _ _ _ eP));replace eT:=af eT;replace dI:=af dI;clear eP hO3)
      |(go_at_call 268;(with_reducible refine cU3.out.mono ?_);rintro e w4 ⟨a4,cap4,rfl,oN,hO4⟩;have oP:=eT.out.trans hO4;have ko:=dI.out.trans hO4;have kB:=hS.out _ ko;have X6:=af (cT.out _ _ cap4 oP (oN.at_ (by have:=WW.out;omega)));replace oP:=af oP;replace ko:=af ko;clear oN hO4)))
   all_goals
    go_wp2_with(first
     |(go_at_call 274;(with_reducible refine X6.out.mono ?_);rintro e w5 ⟨rfl,L5,iF,aB,BI⟩;obtain⟨u0,u1,u2,u3,u4,u5⟩:=EK.out _ (ko.out.nil.trans aB);have cK5:=af (cK.out _ _ _ iF (QK.out _));replace aB:=af aB;replace BI:=af BI;clear iF)
     |(go_at_call 269;(with_reducible refine cK5.out.mono ?_);rintro e w6 ⟨rfl,Ez,bI⟩;replace Ez:=af Ez;replace bI:=af bI))
    go_ret
    exact⟨rfl,lS (oP.out.nil.trans aB.out) (hfe.out _ _ oP.out BI.out) ⟨L5,Ez.out,bI.out.mono (fun y hy=>by simp at hy;subst hy;exact hrb.out L5),fun y hy=>.inl hy⟩⟩
  ·rw[if_pos hu]
   have hu1:(Zg !=1)=true:=by simpa using hu
   clear hu;go_enter Tryz.func218,Tryz.ntmps218
   go_wp2_with(go_at_call 273;(with_reducible refine cL.out.mono ?_);rintro e w2 ⟨rfl,hO2⟩;have hX2:=hW0.out.trans hO2;have Xe:=af (cV.out _ hX2.drew);obtain⟨l7,l5⟩:=hS.out _ hO2;replace hX2:=af hX2.drew;replace hO2:=af hO2.drew)
   go_region_held3(fun W=>W.cell? ⟨n,7,none⟩=some (.pointer (some ⟨L.tb,0,none⟩))/\W.cell? ⟨w.heap.size,5,none⟩=some (.slice p.a p.M.length p.c))
    (first|go_keep|exact kA|exact kB)
    ((first
      |(go_at_call 62;(with_reducible refine Xe.out.mono ?_);rintro e w3 ⟨a3,Xf,rfl,eP,hO3⟩;have eT:=hX2.out.trans hO3;have dI:=hO2.out.trans hO3;have kA:=hS.out _ dI;have cU3:=af (cU.out _ _ Xf eT (hat.out _ _ _ _ eP));replace eT:=af eT;replace dI:=af dI;clear eP hO3)
      |(go_at_call 268;(with_reducible refine cU3.out.mono ?_);rintro e w4 ⟨a4,cap4,rfl,oN,hO4⟩;have oP:=eT.out.trans hO4;have ko:=dI.out.trans hO4;have kB:=hS.out _ ko;replace oP:=af oP;replace ko:=af ko;clear oN hO4)))
   all_goals
    go_wp2_with fail
    go_ret
    exact⟨rfl,hsame.out _ oP.out⟩
 ·rw[if_pos h1]
  have cL:=xZ (dn:=dn) (h.nil' hW0) hr h0;have hb:(eY s dn p !=1)=true:=by simpa using h1
  rw[hv]at cL⊢;simp only[dS]at hW0 cL p0 p1 p2 p3 p4 p5;generalize eY s dn p=lv at*;replace hW0:=af hW0;replace cL:=af cL;clear h hr h0 h1 hv EK hP hM hE;go_enter Tryz.func218,Tryz.ntmps218
  go_wp2_with(go_at_call 273;(with_reducible refine cL.out.mono ?_);rintro e w2 ⟨q2,rfl,hO2⟩;have hX2:=af (hW0.out.trans hO2);clear hO2)
  go_ret
  exact⟨rfl,hsame.out _ hX2.out⟩
end Go.Proofs.YtedcakchekaemaaGreatDoor
namespace Go.Proofs.YtedcakchekaemaaGreatDoor
open Go.RowKit
def Gs(x:bQ):bQ:=⟨x.name,false,x.items⟩
def qp(s:EN)(p:gT):Int×EN:=
 if p.bd.2=false then(9,s)else if s.online=false\/p.bd.1≠s.bd then(2,s)
 else(1,{s with online:=false,want:=0,begun:=false,al:=[],dev:=s.dev.map Gs})
def rM(D:List bQ)(i:Nat):List bQ:=(D.take i).map Gs++D.drop i
theorem Gt(D:List bQ):rM D 0=D:=by simp[rM]
theorem K7(D:List bQ):rM D D.length=D.map Gs:=by simp[rM]
theorem La{D:List bQ}{i:Nat}{x:bQ}(h:D[i]?=some x):(rM D i)[i]?=some x:=by
 have hl:=(List.getElem?_eq_some_iff.1 h).1;unfold rM;rw[List.getElem?_append_right (by simp;omega)];simpa[Nat.min_eq_left (Nat.le_of_lt hl)]using h
theorem Gu{D:List bQ}{i:Nat}{x:bQ}(h:D[i]?=some x):(rM D i).set i (Gs x)=rM D (i+1):=by
 obtain⟨hl,rfl⟩:=List.getElem?_eq_some_iff.1 h;have e1:((D.take i).map Gs).length=i:=by simp;omega
 unfold rM;have e2:D.drop i=D[i]::D.drop (i+1):=List.drop_eq_getElem_cons hl;rw[List.set_append_right _ _ (by omega),e1,Nat.sub_self,e2,List.take_succ_eq_append_getElem hl];simp only[List.set_cons_zero,List.map_append,List.map_cons,List.map_nil,List.append_assoc,List.singleton_append]
theorem Gv(b m:Nat)(l:dN)(w:World)(h:sJ w b m l):
  Calls Tryz.prog 265 #[.pointer (some ⟨b,0,none⟩)] w fun e w'=>(∃c,e=.returned (.int .i64 c))/\sJ w' b m []/\ai [m] w w':=by
 have hm:w.cell? ⟨b,0,none⟩=some (.map (some m)):=cell_of_row w b 0 _ _ _ h.row;have cL:=af (RA b m l w h);obtain⟨w1,hrun,hM,hO,_⟩:=h.map.clear (P:=Tryz.prog) jJ 0;have hT:sJ w1 b m []:=⟨h.ne,hO.heap h.row (by simpa using h.ne),hM⟩;have hr2:=fun ty=>(h.map.clear (P:=Tryz.prog) jJ ty)
 cases l with
 |nil=>
  change Hid _ at h;clear hrun hM hO hT hr2;go_enter Tryz.func265,Tryz.ntmps265
  go_wp2_with(go_at_call 301;(with_reducible refine cL.out.mono ?_);rintro e w2 ⟨rfl,rfl⟩)
  go_ret
  exact⟨⟨_,rfl⟩,h.out,ai.refl _ _⟩
 |cons p r=>
  have hl:(0:Int)<((p::r).length:Int):=by simp
  generalize(p::r).length=len at*;change Hid _ at hT hO;clear hM h hr2;go_enter Tryz.func265,Tryz.ntmps265
  go_wp2_with(go_at_call 301;(with_reducible refine cL.out.mono ?_);rintro e w2 ⟨rfl,rfl⟩)
  go_ret
  exact⟨⟨_,rfl⟩,hT.out,hO.out⟩
theorem au.setRow{w w':World}{n:Nat}{g nm:ByteArray}{L:EW}{s:EN}(h:au w n g nm L s){y:Int}{b:Bool}(ho:ai [L.rb] w w')(hR:Sq.RowAt w' L.rb y b):au w' n g nm L {s with want:=y,begun:=b}:=by
 have hA:=h.apart;unfold EW.feet at hA;simp only[List.nodup_cons,List.mem_cons,List.mem_append,not_or]at hA;obtain⟨⟨a1,a2,a3,a4,a5,a6⟩,⟨b2,b3,b4,b5,b6⟩,_⟩:=hA;have hno: ∀x,x≠L.rb->x∉[L.rb]:=fun x h1=>by simp[h1]
 refine⟨ho.heap h.row (hno _ a1),hR,h.tab.own ho (hno _ (Ne.symm b2)) (hno _ (Ne.symm b3)),h.its.own' ho (fun b hb=>hno b (fun e=>b4 (e▸bB hb))),h.dvs.own ho (fun b hb=>hno b (fun e=>b5 (e▸by simp[hb]))),h.len,fun i d x hd hx=>?_,h.apart,h.few⟩;have hm:d∈L.ds:=List.mem_of_getElem? hd;have hin: ∀b,b∈iD d->b≠L.rb:=fun b hb e=>b6 (List.mem_flatMap.2 ⟨d,hm,e▸hb⟩)
 exact(h.devs i d x hd hx).own ho (hno _ (hin _ (List.mem_cons_self ..))) (fun b hb=>hno b (hin b (List.mem_cons_of_mem _ (bB hb))))
theorem au.setOn{w:World}{n:Nat}{g nm:ByteArray}{L:EW}{s:EN}(h:au w n g nm L s)(v:Bool):
  au (w.setCell ⟨n,2,none⟩ (.bool v)) n g nm L {s with online:=v}/\ai [n] w (w.setCell ⟨n,2,none⟩ (.bool v)):=by
 have hO2:ai [n] w (w.setCell ⟨n,2,none⟩ (.bool v)):=(ai.refl _ _).setCell (by simp) _;have hA:=h.apart;unfold EW.feet at hA;simp only[List.nodup_cons,List.mem_cons,List.mem_append,not_or]at hA;obtain⟨⟨a1,a2,a3,a4,a5,a6⟩,_⟩:=hA;refine⟨⟨heap_setCell_same _ _ _ _ _ _ h.row,h.rrow.own hO2 (by simpa using Ne.symm a1),h.tab.own hO2 (by simpa using Ne.symm a2) (by simpa using Ne.symm a3),h.its.own' hO2 (fun b hb=>?_),h.dvs.own hO2 (fun b hb=>?_),h.len,fun i d x hd hx=>?_,h.apart,h.few⟩,hO2⟩
 ·have:=bB hb
  simp;rintro rfl;exact a4 this
 ·simp;rintro rfl
  exact a5 (by simp[hb])
 ·have hm:d∈L.ds:=List.mem_of_getElem? hd
  have hn2: ∀b,b∈iD d->b≠n:=fun b hb e=>by
   subst e;exact a6 (List.mem_flatMap.2 ⟨d,hm,hb⟩)
  exact(h.devs i d x hd hx).own hO2 (by simpa using hn2 _ (List.mem_cons_self ..)) (fun b hb=>by simpa using hn2 b (List.mem_cons_of_mem _ (bB hb)))
theorem Sv{W:World}{n:Nat}{g nm:ByteArray}{L:EW}{s:EN}(h:au W n g nm L s):
  Calls Tryz.prog 264 #[.pointer (some ⟨L.rb,0,none⟩)] W fun e w'=>(∃c,e=.returned (.bool c))/\au w' n g nm L {s with want:=0,begun:=false}/\ai (L.feet n) W w':=
 (Sq.end_any L.rb s.want s.begun W h.rrow).mono (by
  rintro e w' ⟨rfl,hR,hO⟩;exact⟨⟨_,rfl⟩,h.setRow hO hR,hO.mono (fun y hy=>by simp at hy;subst hy;unfold EW.feet;simp)⟩)
theorem Lb{W:World}{n:Nat}{g nm:ByteArray}{L:EW}{s:EN}(h:au W n g nm L s):
  Calls Tryz.prog 265 #[.pointer (some ⟨L.tb,0,none⟩)] W fun e w'=>(∃c,e=.returned (.int .i64 c))/\au w' n g nm L {s with al:=[]}/\ai (L.feet n) W w':=
 (Gv L.tb L.tm s.al W h.tab).mono (by
  rintro e w' ⟨hc,hT,hO⟩;exact⟨hc,h.setTab (hO.mono (by simp)) hT (by simp),hO.mono (fun y hy=>by simp at hy;subst hy;unfold EW.feet;simp)⟩)
theorem Lc(n:Nat)(g nm:ByteArray)(L:EW)(s:EN)(dn:ByteArray)(p:gT)(w:World)(h:au w n g nm L s)(hM:dR w p.a p.M):
  Calls Tryz.prog 215 #[.pointer (some ⟨n,0,none⟩),.string dn,p.val] w (dD n g nm L (qp s p) w):=by
 have hW0:=dH w p;obtain⟨p0,p1,p2,p3,p4,p5⟩:=bC w p (S:=[]) (by simp) _ (ai.refl _ _);have hv:p.val=.agg #[.int .u64 p.t,.bool p.h,.int .u64 p.s,.string p.u,.string p.b,.slice p.a p.M.length p.c]:=rfl;have hsame:=af fun W (ho:ai [] w W)=>h.same ho
 have cB:=fun W (ho:ai [] w W)=>IC p W (hM.nil' ho)
 have hE0:=fun W (ho:ai [] w W)=>h.nil' ho
 have hC:=fun W s' (hk:au W n g nm L s')=>aM hk (S:=[]) (by simp) W (ai.refl _ _)
 have hlen:=h.len;have hl4:L.ds.length<=4:=by rw[<-h.len];exact h.few.2.2
 obtain⟨da,dc,hdv⟩:=h.dvs.sl;unfold dD qp;rw[hv]at cB⊢;simp only[dS]at hW0 p0 p1 p2 p3 p4 p5;generalize p.bd=bd at*;obtain⟨bd1,bd2⟩:=bd;simp only at*;cases bd2 with
 |false=>
  rw[if_pos rfl];change Hid _ at cB;replace hW0:=af hW0;clear hE0 hC hlen hl4 hdv h hM hv;go_enter Tryz.func215,Tryz.ntmps215
  go_wp2_with(go_at_call 258;(with_reducible refine(cB.out _ hW0.out).mono ?_);rintro e w2 ⟨rfl,hO2⟩;have hX2:=af (hW0.out.trans hO2);clear hO2)
  go_ret
  exact⟨rfl,hsame.out _ hX2.out⟩
 |true=>
  rw[if_neg (by simp)];have hC0:=fun W (ho:ai [] w W)=>hC W s (h.nil' ho)
  cases hon:s.online with
  |false=>
   rw[if_pos (.inl rfl)];rw[hon]at hC0;change Hid _ at hC0 cB;replace hW0:=af hW0;clear hE0 hC hlen hl4 hdv h hM hv hon;go_enter Tryz.func215,Tryz.ntmps215
   go_wp2_with(go_at_call 258;(with_reducible refine(cB.out _ hW0.out).mono ?_);rintro e w2 ⟨rfl,hO2⟩;have hX2:=hW0.out.trans hO2;obtain⟨⟨k2,k3,_⟩,_⟩:=hC0.out _ hX2;replace hX2:=af hX2;clear hO2)
   go_ret
   exact⟨rfl,hsame.out _ hX2.out⟩
  |true=>
   rw[hon]at hC0;by_cases hb:bd1=s.bd
   ·rw[if_neg (by simp[hb])]
    rw[hb]at cB;change Hid _ at hC0 cB;have mV:=af hW0;have hE1:=af fun W (ho:ai [] w W)=>(h.nil' ho).setOn false
    have cR:=af fun W s' (hk:au W n g nm L s')=>Sv hk
    have cT:=af fun W s' (hk:au W n g nm L s')=>Lb hk
    have hnf:n∈L.feet n:=by unfold EW.feet;simp
    change Hid _ at hnf hC hlen hon;have hsb:(s.bd !=s.bd)=false:=by simp
    clear hE0 hM hv hW0 hb h;go_enter Tryz.func215,Tryz.ntmps215
    go_wp2_with(first
     |(go_at_call 258;(with_reducible refine(cB.out _ mV.out).mono ?_);rintro e w2 ⟨rfl,hO2⟩;have hX2:=mV.out.trans hO2;obtain⟨⟨k2,k3,k4,k5,k6,k7,k8⟩,f2,_⟩:=hC0.out _ hX2;obtain⟨hE2,hP2⟩:=hE1.out _ hX2;have cR2:=af (cR.out _ _ hE2);replace hX2:=af (hX2.nil.trans (hP2.mono (fun y hy=>by simp at hy;subst hy;exact hnf.out)));clear hO2 hE2 hP2)
     |(go_at_call 264;(with_reducible refine cR2.out.mono ?_);rintro e w3 ⟨⟨c3,rfl⟩,ji,hO3⟩;obtain⟨⟨_,_,_,_,_,z7,_⟩,_⟩:=hC.out _ _ ji;have cT3:=af (cT.out _ _ ji);replace hO3:=af (hX2.out.trans hO3);clear ji)
     |(go_at_call 265;(with_reducible refine cT3.out.mono ?_);rintro e w4 ⟨⟨c4,rfl⟩,jN,hO4⟩;obtain⟨⟨_,_,_,_,_,_,z8⟩,_⟩:=hC.out _ _ jN;rw[hdv]at z8;replace hO4:=af (hO3.out.trans hO4);replace jN:=af jN))
    go_loopg[49] L.ds.length (fun m s49 wr=> ∃i:Nat,i<=L.ds.length/\m=L.ds.length-i/\s49=.int .i64 i/\
     Aside (au wr n g nm L {s with online:=false,want:=0,begun:=false,al:=[],dev:=rM s.dev i}/\ai (L.feet n) w wr))
    case atStart=>exact⟨0,Nat.zero_le _,rfl,rfl,by rw[Gt];exact jN.out,hO4.out⟩
    case round=>
     obtain⟨i,hi,rfl,rfl,hE,hO⟩:=hrel;by_cases hlt:i<L.ds.length
     ·have hdi:=List.getElem?_eq_getElem hlt
      have hxi:s.dev[i]?=some (s.dev[i]'(by rw[hlen.out];exact hlt)):=List.getElem?_eq_getElem _;obtain⟨gb,cp,e1,hcl⟩:=wE hE hdi;rw[hdv]at e1;cases e1;have cD:=DR hE hdi (La hxi);have hst:=Gu hxi;unfold Gs at hst;rw[hst]at cD;replace cD:=af cD;replace hO:=af hO;generalize hdb:L.ds[i].blk=db at*;clear hE hxi hdi hst hdb;go_wp2_with(go_at_call 266;(with_reducible refine cD.out.mono ?_);rintro e w5 ⟨⟨c5,rfl⟩,iF,aB⟩;replace aB:=af (hO.out.trans aB);replace iF:=af iF)
      go_roundg(L.ds.length-(i+1))
      case rel=>exact⟨i+1,by omega,rfl,by go_num,iF.out,aB.out⟩
      case measure=>omega
     ·have hie:i=s.dev.length:=by rw[hlen.out];omega
      have Ez:=hE;rw[hie,K7]at Ez;change Hid _ at Ez;replace hO:=af hO;clear hE hie;go_wp2_with fail
      go_ret
      exact⟨rfl,L,Ez.out,hO.out,fun y hy=>.inl hy⟩
   ·rw[if_pos (.inr hb)]
    have hbb:(bd1 !=s.bd)=true:=by simpa using hb
    change Hid _ at hC0 cB;replace hW0:=af hW0;clear hE0 hC hlen hl4 hdv h hM hv hon hb;go_enter Tryz.func215,Tryz.ntmps215
    go_wp2_with(go_at_call 258;(with_reducible refine(cB.out _ hW0.out).mono ?_);rintro e w2 ⟨rfl,hO2⟩;have hX2:=hW0.out.trans hO2;obtain⟨⟨k2,k3,_⟩,_⟩:=hC0.out _ hX2;replace hX2:=af hX2;clear hO2)
    go_ret
    exact⟨rfl,hsame.out _ hX2.out⟩
end Go.Proofs.YtedcakchekaemaaGreatDoor
namespace Go.Proofs.YtedcakchekaemaaGreatDoor
open Go.RowKit
theorem Ld(n:Nat)(g nm:ByteArray)(L:EW)(s:EN)(dn:ByteArray)(p:gT)(w:World)(h:au w n g nm L s)(hr:dh bQ.name s.dev)(hM:dR w p.a p.M)(h0:0<=p.s)(hE:jm w):
  Calls Tryz.prog 96 #[.pointer (some ⟨n,0,none⟩),.int .i64 2,.string dn,p.val] w (dD n g nm L (iN (qp s p)) w):=by
 have hW0:=dH w p;obtain⟨q0,q1,q2,q3,q4,q5⟩:=bC w p (S:=[]) (by simp) _ (ai.refl _ _);have cB:=Lc n g nm L s dn p (dS w p) (h.nil' hW0) (hM.nil' hW0);have hC:=fun W L' s' (hk:au W n g nm L' s')=>aM hk (S:=[]) (by simp) W (ai.refl _ _)
 obtain⟨⟨k2,k3,k4,k5,k6,k7,k8⟩,_⟩:=aM h (S:=[]) (by simp) _ hW0;have hp:=fun L' s' w2 (hE:au w2 n g nm L' s') hO hs=>jA (w:=w) (L:=L) hW0 hE hO hs
 have hq:=fun L' s' w2 (hE:au w2 n g nm L' s') hO hs=>jB (w:=w) (L:=L) hW0 hE hO hs
 have cN:=gQ n ⟨L.rb,0,none⟩ (dS w p) k4;unfold dD at cB⊢;have hv:p.val=.agg #[.int .u64 p.t,.bool p.h,.int .u64 p.s,.string p.u,.string p.b,.slice p.a p.M.length p.c]:=rfl;rw[hv]at cB⊢;simp only[dS]at cB cN hW0 q0 q1 q2 q3 q4 q5 k4;unfold iN;generalize qp s p=r at*;obtain⟨r1,r2⟩:=r;simp only at cB⊢;change Hid _ at hW0 hC hp hq;replace cB:=af cB;replace cN:=af cN;clear hv h hr hM h0 hE k2 k3 k5 k6 k7 k8;by_cases h3:3<=r1
 ·rw[if_pos h3]
  go_enter Tryz.func96,Tryz.ntmps96
  go_wp2_with(first
   |(go_at_call 59;(with_reducible refine cN.out.mono ?_);rintro e w1 ⟨rfl,rfl⟩)
   |(go_at_call 168;go_in)
   |(go_at_call 215;(with_reducible refine cB.out.mono ?_);rintro e w2 ⟨rfl,L',hE',jk,hs'⟩;obtain⟨⟨_,_,_,y5,_,_,_⟩,_,_,f5,_,_,_⟩:=hC.out _ _ _ hE';replace hE':=af hE';replace jk:=af jk;replace hs':=af hs'))
  go_ret
  exact⟨rfl,hp.out _ _ _ hE'.out jk.out hs'.out⟩
 ·rw[if_neg h3]
  go_enter Tryz.func96,Tryz.ntmps96
  go_wp2_with(first
   |(go_at_call 59;(with_reducible refine cN.out.mono ?_);rintro e w1 ⟨rfl,rfl⟩)
   |(go_at_call 168;go_in)
   |(go_at_call 215;(with_reducible refine cB.out.mono ?_);rintro e w2 ⟨rfl,L',hE',jk,hs'⟩;replace hE':=af hE';replace jk:=af jk;replace hs':=af hs'))
  go_ret
  exact⟨rfl,hq.out _ _ _ hE'.out jk.out hs'.out⟩
theorem Le(n:Nat)(g nm:ByteArray)(L:EW)(s:EN)(dn:ByteArray)(p:gT)(w:World)(h:au w n g nm L s)(hr:dh bQ.name s.dev)(hM:dR w p.a p.M)(h0:0<=p.s)(hE:jm w):
  Calls Tryz.prog 96 #[.pointer (some ⟨n,0,none⟩),.int .i64 5,.string dn,p.val] w (dD n g nm L (iN (lT s dn p)) w):=by
 have hW0:=dH w p;obtain⟨q0,q1,q2,q3,q4,q5⟩:=bC w p (S:=[]) (by simp) _ (ai.refl _ _);have cB:=Gq n g nm L s dn p (dS w p) (h.nil' hW0) hr (hM.nil' hW0) h0 (hE.nil hW0);have hC:=fun W L' s' (hk:au W n g nm L' s')=>aM hk (S:=[]) (by simp) W (ai.refl _ _)
 obtain⟨⟨k2,k3,k4,k5,k6,k7,k8⟩,_⟩:=aM h (S:=[]) (by simp) _ hW0;have hp:=fun L' s' w2 (hE:au w2 n g nm L' s') hO hs=>jA (w:=w) (L:=L) hW0 hE hO hs
 have hq:=fun L' s' w2 (hE:au w2 n g nm L' s') hO hs=>jB (w:=w) (L:=L) hW0 hE hO hs
 have cN:=gQ n ⟨L.rb,0,none⟩ (dS w p) k4;unfold dD at cB⊢;have hv:p.val=.agg #[.int .u64 p.t,.bool p.h,.int .u64 p.s,.string p.u,.string p.b,.slice p.a p.M.length p.c]:=rfl;rw[hv]at cB⊢;simp only[dS]at cB cN hW0 q0 q1 q2 q3 q4 q5 k4;unfold iN;generalize lT s dn p=r at*;obtain⟨r1,r2⟩:=r;simp only at cB⊢;change Hid _ at hW0 hC hp hq;replace cB:=af cB;replace cN:=af cN;clear hv h hr hM h0 hE k2 k3 k5 k6 k7 k8;by_cases h3:3<=r1
 ·rw[if_pos h3]
  go_enter Tryz.func96,Tryz.ntmps96
  go_wp2_with(first
   |(go_at_call 59;(with_reducible refine cN.out.mono ?_);rintro e w1 ⟨rfl,rfl⟩)
   |(go_at_call 168;go_in)
   |(go_at_call 217;(with_reducible refine cB.out.mono ?_);rintro e w2 ⟨rfl,L',hE',jk,hs'⟩;obtain⟨⟨_,_,_,y5,_,_,_⟩,_,_,f5,_,_,_⟩:=hC.out _ _ _ hE';replace hE':=af hE';replace jk:=af jk;replace hs':=af hs'))
  go_ret
  exact⟨rfl,hp.out _ _ _ hE'.out jk.out hs'.out⟩
 ·rw[if_neg h3]
  go_enter Tryz.func96,Tryz.ntmps96
  go_wp2_with(first
   |(go_at_call 59;(with_reducible refine cN.out.mono ?_);rintro e w1 ⟨rfl,rfl⟩)
   |(go_at_call 168;go_in)
   |(go_at_call 217;(with_reducible refine cB.out.mono ?_);rintro e w2 ⟨rfl,L',hE',jk,hs'⟩;replace hE':=af hE';replace jk:=af jk;replace hs':=af hs'))
  go_ret
  exact⟨rfl,hq.out _ _ _ hE'.out jk.out hs'.out⟩
theorem Lf(n:Nat)(g nm:ByteArray)(L:EW)(s:EN)(dn:ByteArray)(p:gT)(w:World)(h:au w n g nm L s)(hr:dh bQ.name s.dev)(hM:dR w p.a p.M)(h0:0<=p.s)(hE:jm w):
  Calls Tryz.prog 96 #[.pointer (some ⟨n,0,none⟩),.int .i64 6,.string dn,p.val] w (dD n g nm L (iN (lU s dn p)) w):=by
 have hW0:=dH w p;obtain⟨q0,q1,q2,q3,q4,q5⟩:=bC w p (S:=[]) (by simp) _ (ai.refl _ _);have cB:=Pn n g nm L s dn p (dS w p) (h.nil' hW0) hr h0;have hC:=fun W L' s' (hk:au W n g nm L' s')=>aM hk (S:=[]) (by simp) W (ai.refl _ _)
 obtain⟨⟨k2,k3,k4,k5,k6,k7,k8⟩,_⟩:=aM h (S:=[]) (by simp) _ hW0;have hp:=fun L' s' w2 (hE:au w2 n g nm L' s') hO hs=>jA (w:=w) (L:=L) hW0 hE hO hs
 have hq:=fun L' s' w2 (hE:au w2 n g nm L' s') hO hs=>jB (w:=w) (L:=L) hW0 hE hO hs
 have cN:=gQ n ⟨L.rb,0,none⟩ (dS w p) k4;unfold dD at cB⊢;have hv:p.val=.agg #[.int .u64 p.t,.bool p.h,.int .u64 p.s,.string p.u,.string p.b,.slice p.a p.M.length p.c]:=rfl;rw[hv]at cB⊢;simp only[dS]at cB cN hW0 q0 q1 q2 q3 q4 q5 k4;unfold iN;generalize lU s dn p=r at*;obtain⟨r1,r2⟩:=r;simp only at cB⊢;change Hid _ at hW0 hC hp hq;replace cB:=af cB;replace cN:=af cN;clear hv h hr hM h0 hE k2 k3 k5 k6 k7 k8;by_cases h3:3<=r1
 ·rw[if_pos h3]
  go_enter Tryz.func96,Tryz.ntmps96
  go_wp2_with(first
   |(go_at_call 59;(with_reducible refine cN.out.mono ?_);rintro e w1 ⟨rfl,rfl⟩)
   |(go_at_call 168;go_in)
   |(go_at_call 219;(with_reducible refine cB.out.mono ?_);rintro e w2 ⟨rfl,L',hE',jk,hs'⟩;obtain⟨⟨_,_,_,y5,_,_,_⟩,_,_,f5,_,_,_⟩:=hC.out _ _ _ hE';replace hE':=af hE';replace jk:=af jk;replace hs':=af hs'))
  go_ret
  exact⟨rfl,hp.out _ _ _ hE'.out jk.out hs'.out⟩
 ·rw[if_neg h3]
  go_enter Tryz.func96,Tryz.ntmps96
  go_wp2_with(first
   |(go_at_call 59;(with_reducible refine cN.out.mono ?_);rintro e w1 ⟨rfl,rfl⟩)
   |(go_at_call 168;go_in)
   |(go_at_call 219;(with_reducible refine cB.out.mono ?_);rintro e w2 ⟨rfl,L',hE',jk,hs'⟩;replace hE':=af hE';replace jk:=af jk;replace hs':=af hs'))
  go_ret
  exact⟨rfl,hq.out _ _ _ hE'.out jk.out hs'.out⟩
theorem Lg(n:Nat)(g nm:ByteArray)(L:EW)(s:EN)(dn:ByteArray)(p:gT)(w:World)(h:au w n g nm L s)(hr:dh bQ.name s.dev)(hM:dR w p.a p.M)(h0:0<=p.s)(hE:jm w):
  Calls Tryz.prog 96 #[.pointer (some ⟨n,0,none⟩),.int .i64 7,.string dn,p.val] w (dD n g nm L (iN (qo s dn p)) w):=by
 have hW0:=dH w p;obtain⟨q0,q1,q2,q3,q4,q5⟩:=bC w p (S:=[]) (by simp) _ (ai.refl _ _);have cB:=Sr n g nm L s dn p (dS w p) (h.nil' hW0) hr (hM.nil' hW0) h0 (hE.nil hW0);have hC:=fun W L' s' (hk:au W n g nm L' s')=>aM hk (S:=[]) (by simp) W (ai.refl _ _)
 obtain⟨⟨k2,k3,k4,k5,k6,k7,k8⟩,_⟩:=aM h (S:=[]) (by simp) _ hW0;have hp:=fun L' s' w2 (hE:au w2 n g nm L' s') hO hs=>jA (w:=w) (L:=L) hW0 hE hO hs
 have hq:=fun L' s' w2 (hE:au w2 n g nm L' s') hO hs=>jB (w:=w) (L:=L) hW0 hE hO hs
 have cN:=gQ n ⟨L.rb,0,none⟩ (dS w p) k4;unfold dD at cB⊢;have hv:p.val=.agg #[.int .u64 p.t,.bool p.h,.int .u64 p.s,.string p.u,.string p.b,.slice p.a p.M.length p.c]:=rfl;rw[hv]at cB⊢;simp only[dS]at cB cN hW0 q0 q1 q2 q3 q4 q5 k4;unfold iN;generalize qo s dn p=r at*;obtain⟨r1,r2⟩:=r;simp only at cB⊢;change Hid _ at hW0 hC hp hq;replace cB:=af cB;replace cN:=af cN;clear hv h hr hM h0 hE k2 k3 k5 k6 k7 k8;by_cases h3:3<=r1
 ·rw[if_pos h3]
  go_enter Tryz.func96,Tryz.ntmps96
  go_wp2_with(first
   |(go_at_call 59;(with_reducible refine cN.out.mono ?_);rintro e w1 ⟨rfl,rfl⟩)
   |(go_at_call 168;go_in)
   |(go_at_call 218;(with_reducible refine cB.out.mono ?_);rintro e w2 ⟨rfl,L',hE',jk,hs'⟩;obtain⟨⟨_,_,_,y5,_,_,_⟩,_,_,f5,_,_,_⟩:=hC.out _ _ _ hE';replace hE':=af hE';replace jk:=af jk;replace hs':=af hs'))
  go_ret
  exact⟨rfl,hp.out _ _ _ hE'.out jk.out hs'.out⟩
 ·rw[if_neg h3]
  go_enter Tryz.func96,Tryz.ntmps96
  go_wp2_with(first
   |(go_at_call 59;(with_reducible refine cN.out.mono ?_);rintro e w1 ⟨rfl,rfl⟩)
   |(go_at_call 168;go_in)
   |(go_at_call 218;(with_reducible refine cB.out.mono ?_);rintro e w2 ⟨rfl,L',hE',jk,hs'⟩;replace hE':=af hE';replace jk:=af jk;replace hs':=af hs'))
  go_ret
  exact⟨rfl,hq.out _ _ _ hE'.out jk.out hs'.out⟩
theorem Lh(n:Nat)(g nm:ByteArray)(L:EW)(s:EN)(dn:ByteArray)(p:gT)(k:Int)(w:World)(h:au w n g nm L s)(h1:k≠1)(h2:k≠2)(h3:k≠3)(h5:k≠5)(h6:k≠6)(h7:k≠7):
  Calls Tryz.prog 96 #[.pointer (some ⟨n,0,none⟩),.int .i64 k,.string dn,p.val] w (dD n g nm L (0,s) w):=by
 have hW0:=dH w p;obtain⟨q0,q1,q2,q3,q4,q5⟩:=bC w p (S:=[]) (by simp) _ (ai.refl _ _);obtain⟨⟨k2,k3,k4,k5,k6,k7,k8⟩,_⟩:=aM h (S:=[]) (by simp) _ hW0;have hsame:=fun W (ho:ai [] w W)=>h.same ho
 have cN:=gQ n ⟨L.rb,0,none⟩ (dS w p) k4;unfold dD;have hv:p.val=.agg #[.int .u64 p.t,.bool p.h,.int .u64 p.s,.string p.u,.string p.b,.slice p.a p.M.length p.c]:=rfl;rw[hv];simp only[dS]at cN hW0 q0 q1 q2 q3 q4 q5 k4;have b1:(k==1)=false:=by simpa using h1
 have b2:(k==2)=false:=by simpa using h2
 have b3:(k==3)=false:=by simpa using h3
 have b5:(k==5)=false:=by simpa using h5
 have b6:(k==6)=false:=by simpa using h6
 have b7:(k==7)=false:=by simpa using h7
 change Hid _ at hsame;replace cN:=af cN;replace hW0:=af hW0;clear hv h k2 k3 k5 k6 k7 k8 h1 h2 h3 h5 h6 h7;go_enter Tryz.func96,Tryz.ntmps96
 go_wp2_with(first
  |(go_at_call 59;(with_reducible refine cN.out.mono ?_);rintro e w1 ⟨rfl,rfl⟩)
  |(go_at_call 168;go_in)
  |(go_at_call 220;go_in))
 go_ret
 exact⟨rfl,hsame.out _ (hW0.out.alloc _)⟩
def vM(s:EN)(k:Int)(dn:ByteArray)(p:gT):Int×EN:=
 if k=1 then iN (pW s p)else if k=2 then iN (qp s p)else if k=3 then iN (vG s p)else if k=5 then iN (lT s dn p)
 else if k=6 then iN (lU s dn p)else if k=7 then iN (qo s dn p)else(0,s)
theorem VS(n:Nat)(g nm:ByteArray)(L:EW)(s:EN)(k:Int)(dn:ByteArray)(p:gT)(w:World)(h:au w n g nm L s)(hr:dh bQ.name s.dev)(hM:dR w p.a p.M)(h0:0<=p.s)(hE:jm w):
  Calls Tryz.prog 96 #[.pointer (some ⟨n,0,none⟩),.int .i64 k,.string dn,p.val] w (dD n g nm L (vM s k dn p) w):=by
 unfold vM;by_cases h1:k=1
 ·subst h1;rw[if_pos rfl];exact K4 n g nm L s dn p w h hM h0 hE
 rw[if_neg h1];by_cases h2:k=2
 ·subst h2;rw[if_pos rfl];exact Ld n g nm L s dn p w h hr hM h0 hE
 rw[if_neg h2];by_cases h3:k=3
 ·subst h3;rw[if_pos rfl];exact K5 n g nm L s dn p w h hM h0 hE
 rw[if_neg h3];by_cases h5:k=5
 ·subst h5;rw[if_pos rfl];exact Le n g nm L s dn p w h hr hM h0 hE
 rw[if_neg h5];by_cases h6:k=6
 ·subst h6;rw[if_pos rfl];exact Lf n g nm L s dn p w h hr hM h0 hE
 rw[if_neg h6];by_cases h7:k=7
 ·subst h7;rw[if_pos rfl];exact Lg n g nm L s dn p w h hr hM h0 hE
 rw[if_neg h7];exact Lh n g nm L s dn p k w h h1 h2 h3 h5 h6 h7
end Go.Proofs.YtedcakchekaemaaGreatDoor
namespace Go.Proofs.YtedcakchekaemaaGreatDoor
open Go.RowKit
def mM(s:EN):Prop:=dh bQ.name s.dev/\(s.online=false->s.begun=false/\s.al=[]/\ ∀x∈s.dev,x.on=false)
theorem Po:mM ⟨false,0,0,false,false,[],[],[]⟩:=⟨List.Pairwise.nil,fun _=>⟨rfl,rfl,by simp⟩⟩
theorem Gw{D:List bQ}(h:dh bQ.name D)(dn:ByteArray)(l:List bD):dh bQ.name (K6 D dn l):=by
 unfold K6;cases hh:iM bQ.name D dn with
 |true=>
  obtain⟨x,hx,hn⟩:=nK hh;rw[if_pos rfl];exact uW h hx hn.symm
 |false=>
  rw[if_neg (by simp)];exact Gj (x:=⟨dn,true,l⟩) h (KP h hh)
theorem Li{D:List bQ}(h:dh bQ.name D):dh bQ.name (D.map Gs):=List.pairwise_map.2 (h.imp fun hx=>hx)
theorem Gx{s:EN}(h:mM s)(p:gT):mM (pW s p).2:=by
 unfold pW
 repeat' split
 all_goals first|exact h|exact⟨List.Pairwise.nil,fun h=>by simp at h⟩
theorem Gy{s:EN}(h:mM s)(p:gT):mM (qp s p).2:=by
 unfold qp
 repeat' split
 all_goals first|exact h|exact⟨Li h.1,fun _=>⟨rfl,rfl,fun x hx=>by obtain⟨y,_,rfl⟩:=List.mem_map.1 hx;rfl⟩⟩
theorem Lj{s:EN}(h:mM s)(p:gT):mM (vG s p).2:=by
 unfold vG
 repeat' split
 all_goals exact h
theorem DU{s:EN}(h:mM s)(dn:ByteArray)(p:gT):mM (lT s dn p).2:=by
 unfold lT;split
 ·exact h
 ·rename_i ho
  repeat' split
  all_goals first|exact h|exact⟨Gw h.1 _ _,fun h2=>absurd h2 ho⟩
theorem DX{s:EN}(h:mM s)(dn:ByteArray)(p:gT):mM (lU s dn p).2:=by
 unfold lU;split
 ·exact h
 ·rename_i h1
  obtain⟨ho,_⟩:=qR (by simpa using h1);split
  ·exact h
  ·rename_i x hx
   exact⟨uW h.1 hx rfl,fun h2=>by rw[show s.online=false from h2]at ho;cases ho⟩
theorem Gz{s:EN}(h:mM s)(dn:ByteArray)(p:gT):mM (qo s dn p).2:=by
 unfold qo;split
 ·exact h
 ·rename_i h1
  obtain⟨ho,_⟩:=qR (by simpa using h1);split
  ·exact h
  ·rename_i x hx
   split
   ·exact h
   ·exact⟨uW h.1 hx rfl,fun h2=>by rw[show s.online=false from h2]at ho;cases ho⟩
theorem kE{r:Int×EN}(h:mM r.2):mM (iN r).2:=by
 unfold iN;split<;>exact h
theorem Ll{s:EN}(h:mM s)(k:Int)(dn:ByteArray)(p:gT):mM (vM s k dn p).2:=by
 unfold vM
 repeat' split
 ·exact kE (Gx h p)
 ·exact kE (Gy h p)
 ·exact kE (Lj h p)
 ·exact kE (DU h dn p)
 ·exact kE (DX h dn p)
 ·exact kE (Gz h dn p)
 ·exact h
end Go.Proofs.YtedcakchekaemaaGreatDoor
