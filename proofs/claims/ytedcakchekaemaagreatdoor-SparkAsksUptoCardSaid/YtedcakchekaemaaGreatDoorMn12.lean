import Derived.Test.YtedcakchekaemaaGreatDoorMn10
import Derived.Test.YtedcakchekaemaaGreatDoorMn09
set_option maxRecDepth 100000
set_option maxHeartbeats 16000000
set_option linter.all false
namespace Go.Proofs.YtedcakchekaemaaGreatDoor
open Go.RowKit
theorem FI{l want:dN}{ow:ByteArray}(h:dW l ow want=false): ∀p∈want,aS (aD l ow) p.1=none:=by
 intro p hp;rw[dL];intro q hq e;have h1:(aS want q.1).isSome=false:=by
  have h2:=List.any_eq_false.1 h q hq;simpa using h2
 have:aS want q.1=none:=by simpa using h1
 exact(dL _ _).1 this p hp e.symm
theorem rZ(ow:ByteArray): ∀(L:List bD) (acc want:dN),iJ ow L acc=some want->want.length<=acc.length+L.length
 | [],acc,want,h=>by simp[iJ]at h;subst h;simp
 |x::r,acc,want,h=>by
  unfold iJ at h;split at h
  ·split at h
   ·cases h
   ·have:=rZ ow r _ want h
    simp at this⊢;omega
  ·have:=rZ ow r _ want h
   simp at this⊢;omega
def RF(w:World)(r:Int×dN)(e:Ending)(w':World):Prop:=
 (if r.1=0 then∃m,e=.returned (.tuple #[.map (some m),.int .i64 0])/\dG fQ gY w' m r.2/\w.heap.size<=m else e=.returned (.tuple #[.map none,.int .i64 r.1]))/\ai [] w w'
theorem IG(b m:Nat)(l:dN)(ow:ByteArray)(a:Option Addr)(n c:Nat)(its:Nat->bD)(w:World)(h:sJ w b m l)(hA:gq w a n its)(hcap:l.length<=1000000):
  Calls Tryz.prog 296 #[.pointer (some ⟨b,0,none⟩),.string ow,.slice a n c] w (RF w (rX l ow (eO n its))):=by
 have hm:w.cell? ⟨b,0,none⟩=some (.map (some m)):=cell_of_row w b 0 _ _ _ h.row;have F:=af (Kb ow a n c its w hA);have hn:=hA.1;unfold rX;cases hf:iJ ow (eO n its) []with
 |none=>
  rw[hf]at F;clear h hA hf;go_enter Tryz.func296,Tryz.ntmps296
  go_wp2_with(go_at_call 312;refine(jV _ _ _ hm).mono ?_;rintro e w' ⟨rfl,rfl⟩)
  refine F.out.mono ?_;rintro e w1 ⟨rfl,hO⟩;go_wp2_with fail
  go_ret2
  exact⟨rfl,hO⟩
 |some want=>
  rw[hf]at F;have hT:=af (fun w1 (ho:ai [] w w1)=>h.own ho (by simp) (by simp));have hcl:(aD l ow).length<=l.length:=List.length_filter_le _ _;have hwl:want.length<=140737488351232:=by have:=rZ ow _ _ _ hf;simp[eO]at this;omega
  clear h hA hf;cases hx:dW l ow want with
  |true=>
   change Hid _ at hx;go_enter Tryz.func296,Tryz.ntmps296
   go_wp2_with(go_at_call 312;refine(jV _ _ _ hm).mono ?_;rintro e w' ⟨rfl,rfl⟩)
   refine F.out.mono ?_;rintro e w1 ⟨⟨mw,rfl,hM,hmw⟩,hO⟩;have O:=af (rY b m mw l want ow w1 (hT.out _ hO) hM hcap);rw[hx.out]at O;go_wp2_with fail
   refine O.out.mono ?_;rintro e w2 ⟨rfl,hO2⟩;go_wp2_with fail
   go_ret2
   exact⟨rfl,hO.trans hO2⟩
  |false=>
   change Hid _ at hx;simp only[hx.out,Bool.false_eq_true,if_false];by_cases hl:64<(aD l ow).length+want.length
   ·simp only[if_pos hl]
    go_enter Tryz.func296,Tryz.ntmps296
    go_wp2_with(go_at_call 312;refine(jV _ _ _ hm).mono ?_;rintro e w' ⟨rfl,rfl⟩)
    refine F.out.mono ?_;rintro e w1 ⟨⟨mw,rfl,hM,hmw⟩,hO⟩;have O:=af (rY b m mw l want ow w1 (hT.out _ hO) hM hcap);rw[hx.out]at O;have hlen:=fun w2 (h2:ai [] w1 w2)=>(hM.own h2 (by simp)).len_run jJ
    change Hid _ at hlen;go_wp2_with fail
    refine O.out.mono ?_;rintro e w2 ⟨rfl,hO2⟩;have YW:=hlen.out w2 hO2;go_wp2_with fail
    go_ret2
    exact⟨rfl,hO.trans hO2⟩
   ·simp only[if_neg hl]
    go_enter Tryz.func296,Tryz.ntmps296
    go_wp2_with(go_at_call 312;refine(jV _ _ _ hm).mono ?_;rintro e w' ⟨rfl,rfl⟩)
    refine F.out.mono ?_;rintro e w1 ⟨⟨mw,rfl,hM,hmw⟩,hO⟩;have O:=af (rY b m mw l want ow w1 (hT.out _ hO) hM hcap);rw[hx.out]at O;have hlen:=fun w2 (h2:ai [] w1 w2)=>(hM.own h2 (by simp)).len_run jJ
    change Hid _ at hlen;go_wp2_with fail
    refine O.out.mono ?_;rintro e w2 ⟨rfl,hO2⟩;have YW:=hlen.out w2 hO2;have hl':(aD l ow).length+want.length<=64:=by omega
    clear hl;go_wp2_with fail
    go_ret2
    exact⟨⟨mw,rfl,hM.own hO2 (by simp),hmw⟩,hO.trans hO2⟩
theorem RG(b m:Nat)(l:dN)(ow:ByteArray)(a:Option Addr)(n c:Nat)(its:Nat->bD)(w:World)(h:sJ w b m l)(hA:gq w a n its)(hcap:l.length<=1000000):
  Calls Tryz.prog 271 #[.pointer (some ⟨b,0,none⟩),.string ow,.slice a n c] w fun e w'=>e=.returned (.int .i64 (rX l ow (eO n its)).1)/\ai [] w w':=by
 have M:=af (IG b m l ow a n c its w h hA hcap);clear h hA;generalize rX l ow (eO n its)=r at M⊢;obtain⟨r1,r2⟩:=r;by_cases hr:r1=0
 ·subst hr
  go_enter Tryz.func271,Tryz.ntmps271
  go_wp2_with fail
  refine M.out.mono ?_;rintro e w1 ⟨hM,hO⟩;rw[if_pos rfl]at hM;obtain⟨mw,rfl,hM,hmw⟩:=hM;go_wp2_with fail
  go_ret
  exact⟨rfl,hO⟩
 ·replace hr:=af hr
  go_enter Tryz.func271,Tryz.ntmps271
  go_wp2_with fail
  refine M.out.mono ?_;rintro e w1 ⟨hM,hO⟩;rw[if_neg hr.out]at hM;subst hM;go_wp2_with fail
  go_ret
  exact⟨rfl,hO⟩
theorem FJ{l:dN}{ow:ByteArray}{items:List bD}(h:(rX l ow items).1=0):dW l ow (rX l ow items).2=false:=by
 unfold rX at h⊢;split
 ·rename_i hf;rw[hf]at h;simp at h
 ·rename_i want hf
  rw[hf]at h;simp only at h⊢;cases hc:dW l ow want with
  |true=>rw[hc]at h;simp at h
  |false=>
   rw[hc]at h;simp only[Bool.false_eq_true,if_false]at h⊢;split at h
   ·simp at h
   ·rename_i hl;rw[if_neg hl];exact hc
theorem AB(b m:Nat)(l:dN)(ow:ByteArray)(a:Option Addr)(n c:Nat)(its:Nat->bD)(w:World)(h:sJ w b m l)(hA:gq w a n its)(hcap:l.length<=1000000):
  Calls Tryz.prog 262 #[.pointer (some ⟨b,0,none⟩),.string ow,.slice a n c] w fun e w'=>
   e=.returned (.int .i64 (oD l ow (eO n its)).1)/\sJ w' b m (oD l ow (eO n its)).2/\ai [m] w w':=by
 have M:=af (IG b m l ow a n c its w h hA hcap);have hT:=af (fun w1 (ho:ai [] w w1)=>h.own ho (by simp) (by simp));have hlt:=h.lt;have hcl:=fun h0=>FJ (l:=l) (ow:=ow) (items:=eO n its) h0
 change Hid _ at hcl;clear h hA;unfold oD;generalize rX l ow (eO n its)=r at M hcl⊢;obtain⟨r1,r2⟩:=r;by_cases hr:r1=0
 ·subst hr
  simp only[if_true];have H7:=FI (hcl.out rfl);change Hid _ at H7;go_enter Tryz.func262,Tryz.ntmps262
  go_wp2_with fail
  refine M.out.mono ?_;rintro e w1 ⟨hM,hO⟩;rw[if_pos rfl]at hM;obtain⟨mw,rfl,hM,hmw⟩:=hM;have D:=af (CQ b m l ow w1 (hT.out _ hO) hcap);go_wp2_with fail
  refine D.out.mono ?_;rintro e w2 ⟨rfl,lC,hO2⟩;have hne:m≠mw:=by have:=hlt.2;omega
  have C:=af (NT m mw _ r2 w2 lC.map (hM.own hO2 (by simpa using hne.symm)) hne H7.out);have hm2:w2.cell? ⟨b,0,none⟩=some (.map (some m)):=cell_of_row w2 b 0 _ _ _ lC.row;change Hid _ at lC;go_wp2_with fail
  refine C.out.mono ?_;rintro e w3 ⟨rfl,dY,hO3⟩;go_wp2_with fail
  go_ret
  exact⟨rfl,⟨lC.out.ne,hO3.heap lC.out.row (by simpa using lC.out.ne),dY⟩,(hO.nil.trans hO2).trans hO3⟩
 ·rw[if_neg hr]
  have hrb:(r1 !=0)=true:=by simpa using hr
  change Hid _ at hr;go_enter Tryz.func262,Tryz.ntmps262
  go_wp2_with fail
  refine M.out.mono ?_;rintro e w1 ⟨hM,hO⟩;rw[if_neg hr.out]at hM;subst hM;go_wp2_with fail
  go_ret
  exact⟨rfl,hT.out _ hO,hO.nil⟩
theorem CJ(a:Option Addr)(L:List bD)(cap:Nat)(am:Option Addr)(M:List bP)(Uc:Nat)(tb tm:Nat)(l:dN)(ow:ByteArray)(w:World)(h:aY w a L)(hM:dR w am M)(hT:sJ w tb tm l)(hb:L.length*72<=140737488351232)(hE:jm w):
  Calls Tryz.prog 268 #[.slice a L.length cap,.slice am M.length Uc,.pointer (some ⟨tb,0,none⟩),.string ow] w (kD (fT (fZ l ow) M L) w):=by
 have B:=FE a L cap am M Uc tb tm l ow w h hM hT hb;generalize fT (fZ l ow) M L=r at B⊢;unfold IE at B;replace B:=af B;replace hE:=af hE;clear h hM hT;go_enter Tryz.func268,Tryz.ntmps268
 go_wp2_with fail
 refine B.out.mono ?_;rintro e w2 ⟨a2,cap2,er,rfl,hR,hO,hor⟩;have hE2:=hE.out.nil hO;replace hR:=af hR;replace hO:=af hO;rcases hor with⟨h1,rfl⟩|⟨q,rfl,hq⟩
 ·replace h1:=af h1
  go_wp2_with fail
  refine(Cx _).mono ?_;rintro e w3 ⟨rfl,hO2⟩;change Hid _ at hO2;go_wp2_with fail
  go_ret2
  exact⟨a2,cap2,by rw[h1.out];rfl,hR.out.nil' hO2.out,hO.out.trans hO2.out⟩
 ·have C:=Cy q r.1 w2 hE2 hq
  replace C:=af C;clear hE2 hq;go_wp2_with fail
  refine C.out.mono ?_;rintro e w3 ⟨rfl,hO2⟩;change Hid _ at hO2;go_wp2_with fail
  go_ret2
  exact⟨a2,cap2,rfl,hR.out.nil' hO2.out,hO.out.trans hO2.out⟩
def mA:bP:=⟨⟨#[97]⟩,false,0,0,0,false,false,false,(none,0,0),(none,0,0),0,0,⟨#[]⟩,(none,0,0),(none,0,0)⟩
structure bQ where
 name:ByteArray
 on:Bool
 items:List bD
structure EN where
 online:Bool
 bd:Int
 want:Int
 begun:Bool
 pending:Bool
 items:List bD
 al:dN
 dev:List bQ
structure DW where
 blk:Nat
 a:Option Addr
 cap:Nat
 lives:Int
structure EW where
 rb:Nat
 tb:Nat
 tm:Nat
 ia:Option Addr
 ic:Nat
 dv:Value
 ds:List DW
def bJ(a:Option Addr):List Nat:=(a.map (·.block)).toList
def gZ(d:DW):List Value:=[.pointer (some ⟨d.blk,0,none⟩)]
theorem sZ(d:DW):(gZ d).length=1:=rfl
def eX(w:World)(d:DW)(x:bQ):Prop:=
 w.heap[d.blk]?=some (.cells #[.string x.name,.bool x.on,.slice d.a x.items.length d.cap,.int .i64 d.lives] 214 (0,0))/\aI 0 w d.a d.cap x.items/\x.name.toList.isEmpty=false/\x.items.length<=32
def EW.feet(L:EW)(n:Nat):List Nat:=n::L.rb::L.tb::L.tm::(bJ L.ia++(L.dv.ownBlock.toList++L.ds.flatMap fun d=>d.blk::bJ d.a))
def II(g nm:ByteArray)(L:EW)(s:EN):Array Value:=#[.string g,.string nm,.bool s.online,.int .i64 s.bd,.pointer (some ⟨L.rb,0,none⟩),.bool s.pending,.slice L.ia s.items.length L.ic,.pointer (some ⟨L.tb,0,none⟩),L.dv]
structure au (w:World) (n:Nat) (g nm:ByteArray) (L:EW) (s:EN):Prop where
 row:w.heap[n]?=some (.cells (II g nm L s) 159 (0,0))
 rrow:Sq.RowAt w L.rb s.want s.begun
 tab:sJ w L.tb L.tm s.al
 its:aI 0 w L.ia L.ic s.items
 dvs:Sl 164 gZ 1 0 w L.dv L.ds
 len:s.dev.length=L.ds.length
 devs: ∀(i:Nat) d x,L.ds[i]?=some d->s.dev[i]?=some x->eX w d x
 apart:(L.feet n).Nodup
 few:s.items.length<=32/\s.al.length<=64/\s.dev.length<=4
theorem bB{a:Option Addr}{b:Nat}(h:a.map (·.block)=some b):b∈bJ a:=by unfold bJ;rw[h];simp
theorem au.own{S:List Nat}{w w':World}{n:Nat}{g nm:ByteArray}{L:EW}{s:EN}(h:au w n g nm L s)(ho:ai S w w')(hS: ∀x∈L.feet n,x∉S):au w' n g nm L s:=by
 have h1: ∀b,L.ia.map (·.block)=some b->b∉S:=fun b hb=>hS b (by unfold EW.feet;simp[bB hb])
 refine⟨ho.heap h.row (hS n (by unfold EW.feet;simp)),h.rrow.own ho (hS _ (by unfold EW.feet;simp)),h.tab.own ho (hS _ (by unfold EW.feet;simp)) (hS _ (by unfold EW.feet;simp)),h.its.own' ho h1,h.dvs.own ho (fun b hb=>hS b (by unfold EW.feet;simp[hb])),h.len,fun i d x hd hx=>?_,h.apart,h.few⟩;obtain⟨k1,k2,k3⟩:=h.devs i d x hd hx;have hm:d∈L.ds:=List.mem_of_getElem? hd;have hf: ∀b,b∈d.blk::bJ d.a->b∉S:=fun b hb=>hS b (by
  unfold EW.feet;simp only[List.mem_cons,List.mem_append,List.mem_flatMap];exact .inr (.inr (.inr (.inr (.inr (.inr ⟨d,hm,by simpa using hb⟩))))))
 exact⟨ho.heap k1 (hf _ (by simp)),k2.own' ho (fun b hb=>hf b (List.mem_cons_of_mem _ (bB hb))),k3⟩
theorem au.nil'{w w':World}{n:Nat}{g nm:ByteArray}{L:EW}{s:EN}(h:au w n g nm L s)(ho:ai [] w w'):au w' n g nm L s:=h.own ho (by simp)
theorem aI.blt{B:Nat}{w:World}{a:Option Addr}{cap:Nat}{L:List bD}(h:aI B w a cap L){b:Nat}(hb:a.map (·.block)=some b):b<w.heap.size:=by
 cases a with
 |none=>cases hb
 |some q=>
  rcases h.own.2 with⟨h1,_⟩|⟨g,cap',cur,he,_,hg,_⟩
  ·cases h1
  ·cases he
   cases hb;exact aj hg
theorem au.lt{w:World}{n:Nat}{g nm:ByteArray}{L:EW}{s:EN}(h:au w n g nm L s): ∀x∈L.feet n,x<w.heap.size:=by
 intro x hx;unfold EW.feet at hx;simp only[List.mem_cons,List.mem_append,List.mem_flatMap]at hx;rcases hx with rfl|rfl|rfl|rfl|hx|hx|⟨d,hd,hx⟩
 ·exact aj h.row
 ·exact aj h.rrow.1
 ·exact h.tab.lt.1
 ·exact h.tab.lt.2
 ·unfold bJ at hx;exact h.its.blt (Option.mem_toList.1 hx)
 ·exact(h.dvs.block (Option.mem_toList.1 hx)).2
 ·obtain⟨i,hi⟩:=List.getElem?_of_mem hd
  have hil:i<s.dev.length:=by rw[h.len];exact(List.getElem?_eq_some_iff.1 hi).1
  obtain⟨k1,k2,_⟩:=h.devs i d _ hi (List.getElem?_eq_getElem hil);rcases hx with rfl|hx
  ·exact aj k1
  ·unfold bJ at hx;exact k2.blt (Option.mem_toList.1 hx)
def dD(n:Nat)(g nm:ByteArray)(L:EW)(r:Int×EN)(w:World)(e:Ending)(w':World):Prop:=
 e=.returned (.int .i64 r.1)/\ ∃L',au w' n g nm L' r.2/\ai (L.feet n) w w'/\(∀x∈L'.feet n,x∈L.feet n\/w.heap.size<=x)
theorem au.same{n:Nat}{g nm:ByteArray}{L:EW}{s:EN}{w w':World}(h:au w n g nm L s)(ho:ai [] w w'): ∃L',au w' n g nm L' s/\ai (L.feet n) w w'/\(∀x∈L'.feet n,x∈L.feet n\/w.heap.size<=x):=
 ⟨L,h.nil' ho,ho.nil,fun _ hx=>.inl hx⟩
theorem oG{w:World}{a:Option Addr}{L:List bD}(h:aY w a L):gq w a L.length (dJ L):=by
 refine⟨h.1,fun hl=>?_⟩;obtain⟨b,o,rfl,hb,hx⟩:=h.2 hl;exact⟨b,o,rfl,hb,fun i hi=>hx i _ (nk hi)⟩
theorem lN(L:List bD):eO L.length (dJ L)=L:=by
 unfold eO;refine List.ext_getElem? fun i=>?_
 rw[List.getElem?_map];by_cases hi:i<L.length
 ·rw[List.getElem?_range hi,nk hi];rfl
 ·rw[List.getElem?_eq_none (by simpa using hi),List.getElem?_eq_none (by simpa using hi)];rfl
def jb(e:Int):Int:=if e=0 then 1 else if e=16 then 10 else 8
def ig:ByteArray:=⟨#[]⟩
def pW(s:EN)(p:gT):Int×EN:=
 if p.bd.2=false then(9,s)else if p.seq.2=false then(4,s)else if(dx p.M).1≠1 then((dx p.M).1,s)
 else if jb (oD [] ig (dx p.M).2).1≠1 then(jb (oD [] ig (dx p.M).2).1,s)
 else(1,⟨true,p.bd.1,(p.seq.1+1)%256,true,false,(dx p.M).2,(oD [] ig (dx p.M).2).2,[]⟩)
def iC(s:EN)(p:gT):Bool:=p.seq.2&&(s.begun&&p.seq.1==s.want)
def vG(s:EN)(p:gT):Int×EN:=
 if s.online=false then(5,s)else if iC s p=false then(4,s)
 else if(fT (fZ s.al ig) p.M s.items).1≠1 then((fT (fZ s.al ig) p.M s.items).1,s)
 else(1,{s with items:=(fT (fZ s.al ig) p.M s.items).2,want:=(p.seq.1+1)%256})
def iN(r:Int×EN):Int×EN:=if 3<=r.1 then(r.1,{r.2 with pending:=true})else r
theorem Kc(n:Int)(h0:0<=n):0<=(mh n).1/\(mh n).1<256:=by unfold mh;split<;>simp<;>omega
theorem gT.seq_ok(p:gT)(h0:0<=p.s):0<=p.seq.1/\p.seq.1<256:=by unfold gT.seq;split;exact Kc _ h0;simp
theorem tq(l:dN)(ow:ByteArray)(L:List bD)(hl:l.length<=64):(oD l ow L).2.length<=64:=by
 unfold oD rX;cases hf:iJ ow L []with
 |none=>simp;exact hl
 |some want=>
  simp only;by_cases h1:dW l ow want=true
  ·simp[h1];exact hl
  ·by_cases h2:64<(aD l ow).length+want.length
   ·simp[h1,h2];exact hl
   ·simp[h1,h2];omega
theorem zJ(F:Int->ByteArray×Bool): ∀(M:List bP) (L:List bD),(fT F M L).2.length<=L.length:=by
 intro M;induction M with
 |nil=>intro L;simp[fT]
 |cons m r ih=>
  intro L;unfold fT
  repeat' split
  all_goals first|simp|(refine Nat.le_trans (ih _) ?_;simp)|exact ih _
def dS(w:World)(p:gT):World:=w.alloc (.cells #[.int .u64 p.t,.bool p.h,.int .u64 p.s,.string p.u,.string p.b,.slice p.a p.M.length p.c] 54)
theorem dH(w:World)(p:gT):ai [] w (dS w p):=(ai.refl _ _).alloc _
theorem bC(w:World)(p:gT){S:List Nat}(hS:w.heap.size∉S)(W:World)(ho:ai S (dS w p) W):W.cell? ⟨w.heap.size,0,none⟩=some (.int .u64 p.t)/\W.cell? ⟨w.heap.size,1,none⟩=some (.bool p.h)/\W.cell? ⟨w.heap.size,2,none⟩=some (.int .u64 p.s)/\W.cell? ⟨w.heap.size,3,none⟩=some (.string p.u)/\W.cell? ⟨w.heap.size,4,none⟩=some (.string p.b)/\W.cell? ⟨w.heap.size,5,none⟩=some (.slice p.a p.M.length p.c):=by
 have hrow:(dS w p).heap[w.heap.size]?=some (.cells #[.int .u64 p.t,.bool p.h,.int .u64 p.s,.string p.u,.string p.b,.slice p.a p.M.length p.c] 54 (0,0)):=heap_alloc_new _ _;have hr:=ho.heap hrow hS;exact⟨cell_of_row W _ 0 _ _ _ hr,cell_of_row W _ 1 _ _ _ hr,cell_of_row W _ 2 _ _ _ hr,cell_of_row W _ 3 _ _ _ hr,cell_of_row W _ 4 _ _ _ hr,cell_of_row W _ 5 _ _ _ hr⟩
theorem aM{w:World}{n:Nat}{g nm:ByteArray}{L:EW}{s:EN}(h:au w n g nm L s){S:List Nat}(hS:n∉S)(W:World)(ho:ai S w W):
  (W.cell? ⟨n,2,none⟩=some (.bool s.online)/\W.cell? ⟨n,3,none⟩=some (.int .i64 s.bd)/\W.cell? ⟨n,4,none⟩=some (.pointer (some ⟨L.rb,0,none⟩))/\W.cell? ⟨n,5,none⟩=some (.bool s.pending)/\W.cell? ⟨n,6,none⟩=some (.slice L.ia s.items.length L.ic)/\W.cell? ⟨n,7,none⟩=some (.pointer (some ⟨L.tb,0,none⟩))/\W.cell? ⟨n,8,none⟩=some L.dv)/\
  (W.frozen? ⟨n,2,none⟩=false/\W.frozen? ⟨n,3,none⟩=false/\W.frozen? ⟨n,5,none⟩=false/\W.frozen? ⟨n,6,none⟩=false/\W.frozen? ⟨n,7,none⟩=false/\W.frozen? ⟨n,8,none⟩=false):=by
 have hr:=ho.heap h.row hS;exact⟨⟨cell_of_row W _ 2 _ _ _ hr,cell_of_row W _ 3 _ _ _ hr,cell_of_row W _ 4 _ _ _ hr,cell_of_row W _ 5 _ _ _ hr,cell_of_row W _ 6 _ _ _ hr,cell_of_row W _ 7 _ _ _ hr,cell_of_row W _ 8 _ _ _ hr⟩,frozen_of_row _ _ _ _ _ hr,frozen_of_row _ _ _ _ _ hr,frozen_of_row _ _ _ _ _ hr,frozen_of_row _ _ _ _ _ hr,frozen_of_row _ _ _ _ _ hr,frozen_of_row _ _ _ _ _ hr⟩
theorem uU{w:World}{n:Nat}{g nm:ByteArray}{L:EW}{s:EN}(h:au w n g nm L s):n≠L.rb/\n≠L.tb/\n≠L.tm/\L.rb≠L.tb/\L.rb≠L.tm:=by
 have:=h.apart;unfold EW.feet at this;simp only[List.nodup_cons,List.mem_cons,not_or]at this;exact⟨this.1.1,this.1.2.1,this.1.2.2.1,this.2.1.1,this.2.1.2.1⟩
theorem RH{w:World}{b:Nat}{v0 v1 v2:Value}{T:TypeId}(h:w.heap[b]?=some (.cells #[v0,v1,v2] T (0,0))):
  (w.cell? ⟨b,0,none⟩=some v0/\w.cell? ⟨b,1,none⟩=some v1/\w.cell? ⟨b,2,none⟩=some v2)/\(w.frozen? ⟨b,0,none⟩=false/\w.frozen? ⟨b,1,none⟩=false/\w.frozen? ⟨b,2,none⟩=false):=
 ⟨⟨ax h rfl,ax h rfl,ax h rfl⟩,aV h 0,aV h 1,aV h 2⟩
theorem AJ{w:World}{b:Nat}{v0 v1 v2 v3:Value}{T:TypeId}(h:w.heap[b]?=some (.cells #[v0,v1,v2,v3] T (0,0))):
  (w.cell? ⟨b,0,none⟩=some v0/\w.cell? ⟨b,1,none⟩=some v1/\w.cell? ⟨b,2,none⟩=some v2/\w.cell? ⟨b,3,none⟩=some v3)/\(w.frozen? ⟨b,0,none⟩=false/\w.frozen? ⟨b,1,none⟩=false/\w.frozen? ⟨b,2,none⟩=false/\w.frozen? ⟨b,3,none⟩=false):=
 ⟨⟨ax h rfl,ax h rfl,ax h rfl,ax h rfl⟩,aV h 0,aV h 1,aV h 2,aV h 3⟩
theorem eX.own{S:List Nat}{w w':World}{d:DW}{x:bQ}(h:eX w d x)(ho:ai S w w')(hb:d.blk∉S)(ha: ∀b,d.a.map (·.block)=some b->b∉S):eX w' d x:=
 ⟨ho.heap h.1 hb,h.2.1.own' ho ha,h.2.2⟩
theorem eX.nil'{w w':World}{d:DW}{x:bQ}(h:eX w d x)(ho:ai [] w w'):eX w' d x:=h.own ho (by simp) (by simp)
theorem nC(b:Nat)(nm:ByteArray)(w:World)(h:w.cell? ⟨b,0,none⟩=some (.string nm))(hn:nm.toList.isEmpty=false):
  Calls Tryz.prog 103 #[.pointer (some ⟨b,0,none⟩)] w fun e w'=>e=.returned (.bool false)/\w=w':=by
 go_enter Tryz.func103,Tryz.ntmps103
 go_wp2_with fail
 go_ret
 exact⟨rfl,rfl⟩
theorem CS(d:DW)(x:bQ)(w:World)(h:eX w d x):
  Calls Tryz.prog 311 #[.pointer (some ⟨d.blk,0,none⟩)] w fun e w'=>e=.returned (.bool x.on)/\w=w':=by
 obtain⟨⟨k0,k1,k2,k3⟩,_⟩:=AJ h.1;have cN:=af (nC d.blk x.name w k0 h.2.2.1);clear h k2 k3;go_enter Tryz.func311,Tryz.ntmps311
 go_wp2_with(go_at_call 103;(with_reducible refine cN.out.mono ?_);rintro e w1 ⟨rfl,rfl⟩)
 go_ret
 exact⟨by simp,rfl⟩
theorem uM(d:DW)(x:bQ)(w:World)(h:eX w d x):
  Calls Tryz.prog 62 #[.pointer (some ⟨d.blk,0,none⟩)] w fun e w'=> ∃a cap,e=.returned (.agg #[.string x.name,.bool x.on,.slice a x.items.length cap])/\aI w.heap.size w' a cap x.items/\ai [] w w':=by
 obtain⟨⟨k0,k1,k2,k3⟩,_⟩:=AJ h.1;have hlt:d.blk<w.heap.size:=aj h.1;have hl:=h.2.2.2;have cN:=fun W (ho:ai [] w W)=>nC d.blk x.name W (AJ (ho.heap h.1 (by simp))).1.1 h.2.2.1
 have cC:=fun W (ho:ai [] w W)=>nA d.a x.items d.cap W ((h.2.1.nil' ho).at_ (by omega)) (by omega)
 unfold ny at cC;have hA1:ai [] w (w.alloc (.cells #[.string ⟨#[]⟩,.bool false,.slice none 0 0] 46)):=(ai.refl _ _).alloc _;have hA2:ai [] w ((w.alloc (.cells #[.string ⟨#[]⟩,.bool false,.slice none 0 0] 46)).alloc (.cells #[.string x.name,.bool x.on,.slice d.a x.items.length d.cap] 46)):=hA1.alloc _;have hr1:((w.alloc (.cells #[.string ⟨#[]⟩,.bool false,.slice none 0 0] 46)).alloc (.cells #[.string x.name,.bool x.on,.slice d.a x.items.length d.cap] 46)).heap[w.heap.size]?=some (.cells #[.string ⟨#[]⟩,.bool false,.slice none 0 0] 46 (0,0)):=
  ((ai.refl [] _).alloc _).heap (heap_alloc_new w _) (by simp)
 have hr2:((w.alloc (.cells #[.string ⟨#[]⟩,.bool false,.slice none 0 0] 46)).alloc (.cells #[.string x.name,.bool x.on,.slice d.a x.items.length d.cap] 46)).heap[w.heap.size+1]?=some (.cells #[.string x.name,.bool x.on,.slice d.a x.items.length d.cap] 46 (0,0)):=by
  have:=heap_alloc_new (w.alloc (.cells #[.string ⟨#[]⟩,.bool false,.slice none 0 0] 46)) (.cells #[.string x.name,.bool x.on,.slice d.a x.items.length d.cap] 46);simpa using this
 have hfin: ∀w3 w4 a cap,aI (w.heap.size+2) w3 a cap x.items->ai [] w w3->ai [w.heap.size,w.heap.size+1] w3 w4->aI w.heap.size w4 a cap x.items/\ai [] w w4:=fun w3 w4 a cap hR ho YX=>by
  have h1:=hR.own' YX (fun b hb=>by
   have:=hR.fresh;cases a with
   |none=>cases hb
   |some q=>cases hb;have:=this q rfl;simp;omega)
  exact⟨⟨h1.own,fun q hq=>by have:=h1.fresh q hq;omega,h1.good⟩,ho.trans' YX (fun y hy=>.inr (by simp at hy;omega))⟩
 have cN1:=af (cN _ hA1);have cC2:=cC _ hA2;have hsz:((w.alloc (.cells #[.string ⟨#[]⟩,.bool false,.slice none 0 0] 46)).alloc (.cells #[.string x.name,.bool x.on,.slice d.a x.items.length d.cap] 46)).heap.size=w.heap.size+2:=by simp
 rw[hsz]at cC2;replace cC2:=af cC2;clear cC cN h hsz;generalize x.items=its at*;generalize x.name=nm at*;generalize x.on=on at*;change Hid _ at hA1 hr1 hr2 hfin;replace hA2:=af hA2;go_enter Tryz.func62,Tryz.ntmps62
 go_wp2_with(first
  |(go_at_call 103;(with_reducible refine cN1.out.mono ?_);rintro e w1 ⟨rfl,rfl⟩)
  |(go_at_call 60;(with_reducible refine cC2.out.mono ?_);rintro e w3 ⟨a,cap,rfl,eP,hO3⟩;obtain⟨⟨c0,c1,c2⟩,f0,f1,f2⟩:=RH (hO3.heap hr1.out (by simp));obtain⟨⟨d0,d1,d2⟩,e0,e1,e2⟩:=RH (hO3.heap hr2.out (by simp));replace eP:=af eP;replace hO3:=af (hA2.out.trans hO3)))
 refine bodyPost_ret (v:=.agg #[.string nm,.bool on,.slice a its.length cap]) (by simp[results,Tryz.results62,go_sem,c0,c1,c2,d0,d1,d2,f0,f1,f2,e0,e1,e2]) rfl ⟨a,cap,rfl,hfin.out _ _ _ _ eP.out hO3.out ?_⟩
 repeat(first|refine ai.setCell ?_ (.inl (by simp)) _|with_reducible exact ai.refl _ _)
theorem gQ(n:Nat)(b:Addr)(w:World)(h:w.cell? ⟨n,4,none⟩=some (.pointer (some b))):Calls Tryz.prog 59 #[.pointer (some ⟨n,0,none⟩)] w fun e w'=>e=.returned (.bool false)/\w=w':=by
 go_enter Tryz.func59,Tryz.ntmps59
 go_wp2_with fail
 go_ret
 exact⟨rfl,rfl⟩
theorem uV(n:Nat)(g nm:ByteArray)(L:EW)(s:EN)(p:gT)(w:World)(h:au w n g nm L s)(h0:0<=p.s):
  Calls Tryz.prog 267 #[.pointer (some ⟨n,0,none⟩),p.val] w fun e w'=>e=.returned (.bool (iC s p))/\ai [] w w':=by
 have hW0:=dH w p;have hP:=fun W (ho:ai [] (dS w p) W)=>bC w p (S:=[]) (by simp) W ho
 have cS:=xA p (dS w p) h0;have hC:=fun W (ho:ai [] w W)=>aM h (S:=[]) (by simp) W ho
 have cF:=fun x W (ho:ai [] w W)=>Sq.fits_any L.rb s.want s.begun x W (h.rrow.own ho (by simp))
 unfold iC;have hv:p.val=.agg #[.int .u64 p.t,.bool p.h,.int .u64 p.s,.string p.u,.string p.b,.slice p.a p.M.length p.c]:=rfl;rw[hv]at cS⊢;simp only[dS]at hW0 hP cS;generalize p.seq=sq at*;generalize p.t=pt at*;generalize p.h=ph at*;generalize p.s=ps at*;generalize p.u=pu at*;generalize p.b=pb at*;generalize p.a=pa at*;generalize p.c=pc at*;generalize p.M.length=pl at*;obtain⟨WV,sq2⟩:=sq;simp only at*;obtain⟨q0,q1,q2,q3,q4,q5⟩:=hP _ (ai.refl _ _);clear hv h h0 hP;generalize hbw:(s.begun&&WV==s.want)=bw at*;have Ju:=fun W ho=>cF WV W ho
 rw[hbw]at Ju;change Hid _ at hC Ju;replace hW0:=af hW0;replace cS:=af cS;clear hbw cF;cases sq2
 ·go_enter Tryz.func267,Tryz.ntmps267
  go_wp2_with(go_at_call 259;(with_reducible refine cS.out.mono ?_);rintro e w2 ⟨rfl,hO2⟩;replace hO2:=af (hW0.out.trans hO2))
  go_ret
  exact⟨rfl,hO2.out⟩
 ·go_enter Tryz.func267,Tryz.ntmps267
  go_wp2_with(first
   |(go_at_call 259;(with_reducible refine cS.out.mono ?_);rintro e w2 ⟨rfl,hO2⟩;replace hO2:=hW0.out.trans hO2;obtain⟨⟨k2,k3,k4,k5,k6,k7,k8⟩,_⟩:=hC.out _ hO2;have BO:=af (Ju.out _ hO2);replace hO2:=af hO2)
   |(go_at_call 303;(with_reducible refine BO.out.mono ?_);rintro e w3 ⟨rfl,rfl⟩))
  go_ret
  exact⟨by simp,hO2.out⟩
theorem qP(n:Nat)(g nm:ByteArray)(L:EW)(s:EN)(p:gT)(w:World)(h:au w n g nm L s)(h0:0<=p.s)(hf:iC s p=true):
  Calls Tryz.prog 269 #[.pointer (some ⟨n,0,none⟩),p.val] w fun e w'=>e=.returned (.int .i64 1)/\au w' n g nm L {s with want:=(p.seq.1+1)%256}/\ai [L.rb] w w':=by
 have hW0:=dH w p;have cS:=xA p (dS w p) h0;have hsq:=p.seq_ok h0;have hC:=fun W (ho:ai [] w W)=>aM h (S:=[]) (by simp) W ho
 unfold iC at hf;simp only[Bool.and_eq_true,beq_iff_eq]at hf;obtain⟨hf1,hf2,hf3⟩:=hf;have hst:Sq.sTake s.want s.begun p.seq.1=(0,(p.seq.1+1)%256,true):=by unfold Sq.sTake;rw[if_pos hsq,hf2,if_pos rfl,if_pos hf3]
 have cT:=fun W (ho:ai [] w W)=>Sq.take_any L.rb s.want s.begun p.seq.1 W (h.rrow.own ho (by simp))
 rw[hst]at cT;unfold Sq.RowPost at cT;have hend: ∀w2 w3,ai [] w w2->ai [L.rb] w2 w3->Sq.RowAt w3 L.rb ((p.seq.1+1)%256) true->au w3 n g nm L {s with want:=(p.seq.1+1)%256}/\ai [L.rb] w w3:=fun w2 w3 ho ho3 hr=>by
  refine⟨?_,ho.nil.trans ho3⟩;have h2:=h.nil' ho;have hA:=h.apart;have hF:=uU h;unfold EW.feet at hA;simp only[List.nodup_cons,List.mem_cons,List.mem_append,not_or]at hA;have hno: ∀x∈L.feet n,x≠L.rb->x∉[L.rb]:=fun x _ hx=>by simpa using hx
  refine⟨ho3.heap h2.row (by simpa using hF.1),hf2▸hr,h2.tab.own ho3 (by simpa using Ne.symm hF.2.2.2.1) (by simpa using Ne.symm hF.2.2.2.2),h2.its.own' ho3 (fun b hb=>?_),h2.dvs.own ho3 (fun b hb=>?_),h.len,fun i d x hd hx=>?_,h.apart,h.few⟩
  ·have:=bB hb
   simp;rintro rfl;exact hA.2.1.2.2.1 this
  ·simp;rintro rfl
   exact hA.2.1.2.2.2.1 (by simp[hb])
  ·obtain⟨k1,k2,k3⟩:=h2.devs i d x hd hx
   have hm:d∈L.ds:=List.mem_of_getElem? hd;have hn2: ∀b,b∈d.blk::bJ d.a->b≠L.rb:=fun b hb e=>by
    subst e;exact hA.2.1.2.2.2.2 (List.mem_flatMap.2 ⟨d,hm,hb⟩)
   exact⟨ho3.heap k1 (by simpa using hn2 _ (List.mem_cons_self ..)),k2.own' ho3 (fun b hb=>by simpa using hn2 b (List.mem_cons_of_mem _ (bB hb))),k3⟩
 have hv:p.val=.agg #[.int .u64 p.t,.bool p.h,.int .u64 p.s,.string p.u,.string p.b,.slice p.a p.M.length p.c]:=rfl;have hP:=bC w p (S:=[]) (by simp) _ (ai.refl _ _);rw[hv]at cS⊢;simp only[dS]at hW0 hP cS;generalize p.seq=sq at*;generalize p.t=pt at*;generalize p.h=ph at*;generalize p.s=ps at*;generalize p.u=pu at*;generalize p.b=pb at*;generalize p.a=pa at*;generalize p.c=pc at*;generalize p.M.length=pl at*;obtain⟨WV,sq2⟩:=sq;simp only at*;obtain⟨q0,q1,q2,q3,q4,q5⟩:=hP;change Hid _ at hC cT hend;replace hW0:=af hW0;replace cS:=af cS;clear hv h h0 hst hf1 hf2 hf3 hsq;go_enter Tryz.func269,Tryz.ntmps269
 go_wp2_with(first
  |(go_at_call 259;(with_reducible refine cS.out.mono ?_);rintro e w2 ⟨rfl,hO2⟩;replace hO2:=hW0.out.trans hO2;obtain⟨⟨k2,k3,k4,k5,k6,k7,k8⟩,_⟩:=hC.out _ hO2;have cT2:=af (cT.out _ hO2);replace hO2:=af hO2)
  |(go_at_call 305;(with_reducible refine cT2.out.mono ?_);rintro e w3 ⟨rfl,hr3,hO3⟩;replace hr3:=af hr3;replace hO3:=af hO3))
 go_ret
 exact⟨rfl,hend.out _ _ hO2.out hO3.out hr3.out⟩
theorem Gh{L:EW}{n B:Nat}(h:(L.feet n).Nodup)(hlt: ∀x∈L.feet n,x<B){a:Option Addr}(ha: ∀b,a.map (·.block)=some b->B<=b)(cap:Nat):
  (({L with ia:=a,ic:=cap}:EW).feet n).Nodup/\ ∀x∈({L with ia:=a,ic:=cap}:EW).feet n,x∈L.feet n\/B<=x:=by
 unfold EW.feet at h hlt⊢;simp only;generalize hr:(L.dv.ownBlock.toList++L.ds.flatMap fun d=>d.blk::bJ d.a)=R at h hlt⊢;have hsub:(n::L.rb::L.tb::L.tm::R).Sublist (n::L.rb::L.tb::L.tm::(bJ L.ia++R)):=(((List.Sublist.cons_cons _ ((List.sublist_append_right _ _).cons_cons _ |>.cons_cons _ |>.cons_cons _))));have h2:=h.sublist hsub;have hlt2: ∀x∈n::L.rb::L.tb::L.tm::R,x<B:=fun x hx=>hlt x (hsub.subset hx)
 have hp:(n::L.rb::L.tb::L.tm::(bJ a++R)).Perm (bJ a++(n::L.rb::L.tb::L.tm::R)):=by
  have:=List.perm_append_comm_assoc [n,L.rb,L.tb,L.tm] (bJ a) R;simpa using this
 have hm: ∀b∈bJ a,B<=b:=fun b hb=>ha b (by unfold bJ at hb;exact Option.mem_toList.1 hb)
 refine⟨hp.nodup_iff.2 (List.nodup_append.2 ⟨by unfold bJ;cases a<;>simp,h2,fun x hx y hy e=>?_⟩),fun x hx=>?_⟩
 ·have:=hm x hx;have:=hlt2 y hy;omega
 ·rcases List.mem_append.1 (hp.subset hx)with h3|h3
  ·exact .inr (hm x h3)
  ·exact .inl (hsub.subset h3)
theorem au.setItems{w w2:World}{n:Nat}{g nm:ByteArray}{L:EW}{s:EN}(h:au w n g nm L s)(ho:ai [] w w2){a:Option Addr}{cap:Nat}{l:List bD}(hR:aI w.heap.size w2 a cap l)(hl:l.length<=32):
  au (w2.setCell ⟨n,6,none⟩ (.slice a l.length cap)) n g nm {L with ia:=a,ic:=cap} {s with items:=l}/\ai [n] w2 (w2.setCell ⟨n,6,none⟩ (.slice a l.length cap))/\(∀x∈({L with ia:=a,ic:=cap}:EW).feet n,x∈L.feet n\/w.heap.size<=x):=by
 have hO2:ai [n] w2 (w2.setCell ⟨n,6,none⟩ (.slice a l.length cap)):=(ai.refl _ _).setCell (by simp) _;have hab: ∀b,a.map (·.block)=some b->w.heap.size<=b:=fun b hb=>by
  cases a with
  |none=>cases hb
  |some p=>cases hb;exact hR.fresh p rfl
 have hF:=Gh h.apart h.lt hab cap;have hln:n<w.heap.size:=aj h.row;have hA:=h.apart;unfold EW.feet at hA;simp only[List.nodup_cons,List.mem_cons,List.mem_append,not_or]at hA;obtain⟨⟨a1,a2,a3,a4,a5,a6⟩,_⟩:=hA;have h2:=h.nil' ho;refine⟨⟨heap_setCell_same _ _ _ _ _ _ h2.row,h2.rrow.own hO2 (by simpa using Ne.symm a1),h2.tab.own hO2 (by simpa using Ne.symm a2) (by simpa using Ne.symm a3),?_,h2.dvs.own hO2 (fun b hb=>?_),h.len,fun i d x hd hx=>?_,hF.1,⟨hl,h.few.2⟩⟩,hO2,hF.2⟩
 ·have:=hR.own' hO2 (fun b hb=>by have:=hab b hb;simp;omega)
  exact⟨this.own,fun q _=>Nat.zero_le _,this.good⟩
 ·simp;rintro rfl
  exact a5 (by simp[hb])
 ·obtain⟨k1,k2,k3⟩:=h2.devs i d x hd hx
  have hm:d∈L.ds:=List.mem_of_getElem? hd;have hn2: ∀b,b∈d.blk::bJ d.a->b≠n:=fun b hb e=>by
   subst e;exact a6 (List.mem_flatMap.2 ⟨d,hm,hb⟩)
  exact⟨hO2.heap k1 (by simpa using hn2 _ (List.mem_cons_self ..)),k2.own' hO2 (fun b hb=>by simpa using hn2 b (List.mem_cons_of_mem _ (bB hb))),k3⟩
theorem Bb(v:Value)(w:World):(Go.method 677 455 (.agg #[v]) "crier/device.needsLife").run Tryz.prog w=.ok (423,.agg #[v]) w:=by kernel_rfl
theorem Dr(v:Value)(w:World):(Go.method 677 433 (.agg #[v]) "crier/device.needsLife").run Tryz.prog w=.ok (421,.agg #[v]) w:=by kernel_rfl
theorem Bc(w:World):(Go.method 677 425 (.agg #[]) "crier/device.needsLife").run Tryz.prog w=.ok (420,.agg #[]) w:=by kernel_rfl
theorem Yp(v:Value)(w:World):(Instr.typeAssert (.iface 455 (.agg #[v])) 454 455 true).run Tryz.prog w=.ok (.tuple #[.agg #[v],.bool true]) w:=by kernel_rfl
theorem Yq(v:Value)(w:World):(Instr.typeAssert (.iface 433 (.agg #[v])) 454 455 true).run Tryz.prog w=.ok (.tuple #[.agg #[.slice none 0 0],.bool false]) w:=by kernel_rfl
theorem Yr(w:World):(Instr.typeAssert (.iface 425 (.agg #[])) 454 455 true).run Tryz.prog w=.ok (.tuple #[.agg #[.slice none 0 0],.bool false]) w:=by kernel_rfl
theorem Yt(v:Value)(w:World):(Instr.typeAssert (.iface 433 (.agg #[v])) 454 433 true).run Tryz.prog w=.ok (.tuple #[.agg #[v],.bool true]) w:=by kernel_rfl
theorem Yu(w:World):(Instr.typeAssert (.iface 425 (.agg #[])) 454 433 true).run Tryz.prog w=.ok (.tuple #[.agg #[.slice none 0 0],.bool false]) w:=by kernel_rfl
theorem Yv(w:World):(Instr.typeAssert (.iface 425 (.agg #[])) 454 425 true).run Tryz.prog w=.ok (.tuple #[.agg #[],.bool true]) w:=by kernel_rfl
def lQ(d:DW)(x':bQ)(w:World)(e:Ending)(w':World):Prop:=e=.returned (.int .i64 0)/\ ∃d',d'.blk=d.blk/\eX w' d' x'/\ai [d.blk] w w'/\(∀b,d'.a.map (·.block)=some b->d.a.map (·.block)=some b\/w.heap.size<=b)
theorem I7{d:DW}{x x':bQ}{w w3 w4:World}{a:Option Addr}{cap:Nat}{li:Int}(h:eX w d x)(hn:x'.name=x.name)(hl:x'.items.length<=32)(ho:ai [] w w3)(hR:aI w.heap.size w3 a cap x'.items)(h4:w4.heap[d.blk]?=some (.cells #[.string x.name,.bool x'.on,.slice a x'.items.length cap,.int .i64 li] 214 (0,0)))(YX:ai [d.blk] w3 w4):
  ∃d',d'.blk=d.blk/\eX w4 d' x'/\ai [d.blk] w w4/\(∀b,d'.a.map (·.block)=some b->d.a.map (·.block)=some b\/w.heap.size<=b):=by
 have hlt:d.blk<w.heap.size:=aj h.1;have hf: ∀b,a.map (·.block)=some b->w.heap.size<=b:=fun b hb=>by
  cases a with
  |none=>cases hb
  |some q=>cases hb;exact hR.fresh q rfl
 have h1:=hR.own' YX (fun b hb=>by have:=hf b hb;simp;omega);exact⟨⟨d.blk,a,cap,li⟩,rfl,⟨by rw[hn];exact h4,⟨h1.own,fun _ _=>Nat.zero_le _,h1.good⟩,by rw[hn];exact h.2.2.1,hl⟩,ho.nil.trans YX,fun b hb=>.inr (hf b hb)⟩
theorem KJ(d:DW)(x:bQ)(a:Option Addr)(l:List bD)(c:Nat)(w:World)(h:eX w d x)(hA:aY w a l)(hl:l.length<=32):
  Calls Tryz.prog 302 #[.pointer (some ⟨d.blk,0,none⟩),.iface 455 (.agg #[.slice a l.length c])] w (lQ d ⟨x.name,true,l⟩ w):=by
 have mb:=Bb;have ab:=Yp;obtain⟨⟨k0,k1,k2,k3⟩,_⟩:=AJ h.1;have hlt:d.blk<w.heap.size:=aj h.1;have cN:=af (nC d.blk x.name w k0 h.2.2.1);have cC:=af fun W (ho:ai [] w W)=>nA a l c W (hA.nil' ho) (by omega)
 unfold ny at cC;have hr:=af fun W (ho:ai [] w W)=>ho.heap h.1 (by simp)
 have hend:=af fun w3 w4 a cap li=>I7 (x':=⟨x.name,true,l⟩) (w3:=w3) (w4:=w4) (a:=a) (cap:=cap) (li:=li) h rfl hl
 have hA2:=af (show ai [] w ((w.alloc (.cells #[.slice a l.length c] 455)).alloc (.cells #[.slice a l.length c] 455))from((ai.refl _ _).alloc _).alloc _);clear h hA hl;unfold lQ;go_enter Tryz.func302,Tryz.ntmps302
 go_wp2_with(first
  |(go_at_call 103;(with_reducible refine cN.out.mono ?_);rintro e w1 ⟨rfl,rfl⟩)
  |(go_at_call 423;go_in)
  |(go_at_call 60;(with_reducible refine(cC.out _ hA2.out).mono ?_);rintro e w3 ⟨a',cap',rfl,eP,hO3⟩;obtain⟨⟨c0,c1,c2,c3⟩,f0,f1,f2,f3⟩:=AJ (hr.out _ (hA2.out.trans hO3));replace eP:=af eP;replace hO3:=af (hA2.out.trans hO3)))
 go_ret
 refine⟨rfl,hend.out _ _ _ _ _ hO3.out ⟨eP.out.own,fun q hq=>Nat.le_trans hA2.out.size (eP.out.fresh q hq),eP.out.good⟩ (heap_setCell_same _ _ _ _ _ _ (heap_setCell_same _ _ _ _ _ _ (heap_setCell_same _ _ _ _ _ _ (hr.out _ hO3.out)))) ?_⟩
 repeat(first|refine ai.setCell ?_ (.inl (by simp)) _|with_reducible exact ai.refl _ _)
theorem KL(d:DW)(x:bQ)(a:Option Addr)(l:List bD)(c:Nat)(w:World)(h:eX w d x)(hon:x.on=true)(hA:aY w a l)(hl:l.length<=32):
  Calls Tryz.prog 302 #[.pointer (some ⟨d.blk,0,none⟩),.iface 433 (.agg #[.slice a l.length c])] w (lQ d ⟨x.name,true,l⟩ w):=by
 have mb:=Dr;have ab:=Yq;have at_:=Yt;obtain⟨⟨k0,k1,k2,k3⟩,_⟩:=AJ h.1;rw[hon]at k1;have hlt:d.blk<w.heap.size:=aj h.1;have cN:=af (nC d.blk x.name w k0 h.2.2.1);have cC:=af fun W (ho:ai [] w W)=>nA a l c W (hA.nil' ho) (by omega)
 unfold ny at cC;have hr:=af fun W (ho:ai [] w W)=>ho.heap h.1 (by simp)
 have hend:=af fun w3 w4 a cap li=>I7 (x':=⟨x.name,true,l⟩) (w3:=w3) (w4:=w4) (a:=a) (cap:=cap) (li:=li) h rfl hl
 have hA2:=af (show ai [] w ((w.alloc (.cells #[.slice a l.length c] 433)).alloc (.cells #[.slice a l.length c] 433))from((ai.refl _ _).alloc _).alloc _);change Hid _ at hon;clear h hA hl;unfold lQ;go_enter Tryz.func302,Tryz.ntmps302
 go_wp2_with(first
  |(go_at_call 103;(with_reducible refine cN.out.mono ?_);rintro e w1 ⟨rfl,rfl⟩)
  |(go_at_call 421;go_in)
  |(go_at_call 60;(with_reducible refine(cC.out _ hA2.out).mono ?_);rintro e w3 ⟨a',cap',rfl,eP,hO3⟩;obtain⟨⟨c0,c1,c2,c3⟩,f0,f1,f2,f3⟩:=AJ (hr.out _ (hA2.out.trans hO3));replace eP:=af eP;replace hO3:=af (hA2.out.trans hO3)))
 go_ret
 have hr3:=hr.out _ hO3.out;rw[hon.out]at hr3;refine⟨rfl,hend.out _ _ _ _ _ hO3.out ⟨eP.out.own,fun q hq=>Nat.le_trans hA2.out.size (eP.out.fresh q hq),eP.out.good⟩ (heap_setCell_same _ _ _ _ _ _ hr3) ?_⟩
 repeat(first|refine ai.setCell ?_ (.inl (by simp)) _|with_reducible exact ai.refl _ _)
theorem Gi(d:DW)(x:bQ)(w:World)(h:eX w d x)(hne:d.a.map (·.block)≠some d.blk):
  Calls Tryz.prog 302 #[.pointer (some ⟨d.blk,0,none⟩),.iface 425 (.agg #[])] w fun e w'=>(∃c,e=.returned (.int .i64 c))/\eX w' d ⟨x.name,false,x.items⟩/\ai [d.blk] w w':=by
 have mb:=Bc;have ab:=Yr;have at_:=Yu;have ad:=Yv;obtain⟨⟨k0,k1,k2,k3⟩,_⟩:=AJ h.1;have hg1:=(AJ h.1).2.2.1;have hlt:d.blk<w.heap.size:=aj h.1;have cN:=af (nC d.blk x.name w k0 h.2.2.1);have hend: ∀w4,w4.heap[d.blk]?=some (.cells #[.string x.name,.bool false,.slice d.a x.items.length d.cap,.int .i64 d.lives] 214 (0,0))->ai [d.blk] w w4->eX w4 d ⟨x.name,false,x.items⟩:=fun w4 h4 ho=>
  ⟨h4,h.2.1.own' ho (fun b hb=>by simp;rintro rfl;exact hne hb),h.2.2⟩
 have hr:=af fun W (ho:ai [] w W)=>ho.heap h.1 (by simp)
 change Hid _ at hend;cases hon:x.on
 ·have Ia:=af hon
  rw[hon]at k1;clear h hne hon;go_enter Tryz.func302,Tryz.ntmps302
  go_wp2_with(first
   |(go_at_call 103;(with_reducible refine cN.out.mono ?_);rintro e w1 ⟨rfl,rfl⟩)
   |(go_at_call 420;go_in))
  go_ret
  have hA:=(ai.refl [] w).alloc (.cells #[] 425);have hrw:=hr.out _ hA;rw[Ia.out]at hrw;exact⟨⟨_,rfl⟩,hend.out _ hrw hA.nil,hA.nil⟩
 ·have Ia:=af hon
  rw[hon]at k1;clear h hne hon;go_enter Tryz.func302,Tryz.ntmps302
  go_wp2_with(first
   |(go_at_call 103;(with_reducible refine cN.out.mono ?_);rintro e w1 ⟨rfl,rfl⟩)
   |(go_at_call 420;go_in))
  go_ret
  have hrw:=hr.out _ (ai.refl _ _);rw[Ia.out]at hrw;have gV:ai [d.blk] w (w.setCell ⟨d.blk,1,none⟩ (.bool false)):=(ai.refl _ _).setCell (.inl (by simp)) _;have aH:ai [] (w.setCell ⟨d.blk,1,none⟩ (.bool false)) (((w.setCell ⟨d.blk,1,none⟩ (.bool false)).alloc (.cells #[] 425)).alloc (.cells #[] 425)):=((ai.refl _ _).alloc _).alloc _;have hO:=gV.trans aH.nil;exact⟨⟨_,rfl⟩,hend.out _ (aH.heap (heap_setCell_same _ _ _ _ _ _ hrw) (by simp)) hO,hO⟩
theorem KM(d:DW)(x:bQ)(a:Option Addr)(l:List bD)(c:Nat)(w:World)(h:eX w d x)(hA:aY w a l)(hl:l.length<=32):
  Calls Tryz.prog 310 #[.pointer (some ⟨d.blk,0,none⟩),.slice a l.length c] w (lQ d ⟨x.name,true,l⟩ w):=by
 have cB:=af (KJ d x a l c w h hA hl);clear h hA hl;unfold lQ at*;go_enter Tryz.func310,Tryz.ntmps310
 go_wp2_with(go_at_call 302;(with_reducible refine cB.out.mono ?_);rintro e w1 ⟨rfl,hx⟩;replace hx:=af hx)
 go_ret
 exact⟨rfl,hx.out⟩
theorem KN(d:DW)(x:bQ)(a:Option Addr)(l:List bD)(c:Nat)(w:World)(h:eX w d x)(hon:x.on=true)(hA:aY w a l)(hl:l.length<=32):
  Calls Tryz.prog 274 #[.pointer (some ⟨d.blk,0,none⟩),.slice a l.length c] w (lQ d ⟨x.name,true,l⟩ w):=by
 have cB:=af (KL d x a l c w h hon hA hl);clear h hA hl hon;unfold lQ at*;go_enter Tryz.func274,Tryz.ntmps274
 go_wp2_with(go_at_call 302;(with_reducible refine cB.out.mono ?_);rintro e w1 ⟨rfl,hx⟩;replace hx:=af hx)
 go_ret
 exact⟨rfl,hx.out⟩
theorem KO(d:DW)(x:bQ)(w:World)(h:eX w d x)(hne:d.a.map (·.block)≠some d.blk):
  Calls Tryz.prog 266 #[.pointer (some ⟨d.blk,0,none⟩)] w fun e w'=>(∃c,e=.returned (.int .i64 c))/\eX w' d ⟨x.name,false,x.items⟩/\ai [d.blk] w w':=by
 have cB:=af (Gi d x w h hne);clear h hne;go_enter Tryz.func266,Tryz.ntmps266
 go_wp2_with(go_at_call 302;(with_reducible refine cB.out.mono ?_);rintro e w1 ⟨⟨c,rfl⟩,hx⟩;replace hx:=af hx)
 go_ret
 exact⟨⟨_,rfl⟩,hx.out⟩
theorem O3(nm:ByteArray)(w:World)(hn:nm.toList.isEmpty=false):
  Calls Tryz.prog 308 #[.string nm] w fun e w'=> ∃b,e=.returned (.tuple #[.pointer (some ⟨b,0,none⟩),.int .i64 0])/\eX w' ⟨b,none,0,0⟩ ⟨nm,false,[]⟩/\ai [] w w'/\w.heap.size<=b:=by
 have hr:(w.alloc (.cells #[.string nm,.bool false,.slice none 0 0,.int .i64 0] 214)).heap[w.heap.size]?=some (.cells #[.string nm,.bool false,.slice none 0 0,.int .i64 0] 214 (0,0)):=heap_alloc_new _ _;change Hid _ at hr;go_enter Tryz.func308,Tryz.ntmps308
 go_wp2_with fail
 go_ret2
 exact⟨_,rfl,⟨hr.out,aI.nil _ _,hn,by simp⟩,(ai.refl _ _).alloc _,Nat.le_refl _⟩
end Go.Proofs.YtedcakchekaemaaGreatDoor
