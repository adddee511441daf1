/- Contracts of the program, part 10. -/
import Derived.Test.YtedcakchekaemaaGreatDoorMp09
import Derived.Test.YtedcakchekaemaaGreatDoorMp08
import Derived.Shelf.Spec.SlicesInsertGrow
set_option maxRecDepth 100000
set_option maxHeartbeats 16000000
set_option linter.all false
namespace Go.Proofs.YtedcakchekaemaaGreatDoor
open Go.RowKit
theorem Eo(a:Option Addr)(L:List bJ)(cap:Nat)(am:Option Addr)(M:List bW)(XV:Nat)(tb tm:Nat)(l:dY)(ow:ByteArray)(w:World)(h:bB w a L)(hM:eF w am M)(hT:uS w tb tm l)(hb:L.length*72<=140737488351232)(hE:jP w):
  Calls Tryz.prog 268 #[.slice a L.length cap,.slice am M.length XV,.pointer (some ⟨tb,0,none⟩),.string ow] w (lD (fZ (gK l ow) M L) w):=by
 have B:=HV a L cap am M XV tb tm l ow w h hM hT hb;generalize fZ (gK l ow) M L=r at B⊢;unfold Kr at B;replace B:=af B;replace hE:=af hE;clear h hM hT;go_enter Tryz.func268,Tryz.ntmps268
 go_wp2_with fail
 refine B.out.mono ?_;rintro e w2 ⟨a2,cap2,er,rfl,hR,hO,hor⟩;have hE2:=hE.out.nil hO;replace hR:=af hR;replace hO:=af hO;rcases hor with⟨h1,rfl⟩|⟨q,rfl,hq⟩
 ·replace h1:=af h1
  go_wp2_with fail
  refine(Eh _).mono ?_;rintro e w3 ⟨rfl,hO2⟩;change Hid _ at hO2;go_wp2_with fail
  go_ret2
  exact⟨a2,cap2,by rw[h1.out];rfl,hR.out.nil' hO2.out,hO.out.trans hO2.out⟩
 ·have C:=Ei q r.1 w2 hE2 hq
  replace C:=af C;clear hE2 hq;go_wp2_with fail
  refine C.out.mono ?_;rintro e w3 ⟨rfl,hO2⟩;change Hid _ at hO2;go_wp2_with fail
  go_ret2
  exact⟨a2,cap2,rfl,hR.out.nil' hO2.out,hO.out.trans hO2.out⟩
def mA:bW:=⟨⟨#[97]⟩,false,0,0,0,false,false,false,(none,0,0),(none,0,0),0,0,⟨#[]⟩,(none,0,0),(none,0,0)⟩
section
variable {α : Type} {enc : α → List Value} {k : Nat} {P : Program}
theorem H7{ops:Array Oper}{o:Oper}{a:Act}{K:Act->World->Prop}{Q:Exit->Act->World->Prop}{E:Prop}(hgd:o.guard=none)(s x:Operand){t T:TypeId}(ho:o.op=.call {callee:=.builtin .append,args:=#[s,x],argTypes:=#[t,t]})
  {bytes:Nat}(E1:jG P t T enc k bytes){W w:World}(hW:ai [] W w){v sv:Value}{l l2:List α}(hs:a.eval s=v)(hv:Sl T enc k W.heap.size w v l)(hx:a.eval x=sv)(hsv:aG enc w sv l2)
  (hlen:(l.length+l2.length)*bytes<=140737488355328)(hmax:l.length+l2.length<=maxLen)
  (h: ∀v' w',Sl T enc k W.heap.size w' v' (l++l2)->ai [] W w'->(∀g,v'.ownBlock=some g->v.ownBlock=some g\/w.heap.size<=g)->ai v.ownBlock.toList w w'->K (a.put o.dst v') w'):
  if Region.wanted o (yielded ops a.tmps)=true then Oper.wp P o a w K Q else E:=by
 have hw:Region.wanted o (yielded ops a.tmps)=true:=by simp[Region.wanted,hgd]
 rw[if_pos hw];obtain⟨v',w',hr,h2,h3,h4,h5,h6⟩:=kK (P:=P) E1 o.type hW hv hsv hlen hmax;unfold Oper.wp execOp;simp only[ho,resolve,invoke,builtin,Sem.run_bind,Sem.run_pure,Result.andThen_ok,List.map_toArray,List.map_cons,List.map_nil,hs,hx,hr];exact h v' w' h2 h3 h5 h6
theorem Qh{ops:Array Oper}{o:Oper}{a:Act}{w:World}{K:Act->World->Prop}{Q:Exit->Act->World->Prop}{E:Prop}(hgd:o.guard=none)(f:FuncId)(args:Array Operand)(tys:Array TypeId)(ho:o.op=.call {callee:=.value (.func f),args:=args,argTypes:=tys})
  {vs:Array Value}(hvs:args.map a.eval=vs)(hent: ∀args w,(callFunc f args).run P w=.ok (.enter f args) w){R:Value->World->Prop}(hC:Calls P f vs w fun e w'=> ∃v,e=.returned v/\R v w')(h: ∀v w',R v w'->K (a.put o.dst v) w'):
  if Region.wanted o (yielded ops a.tmps)=true then Oper.wp P o a w K Q else E:=by
 have hw:Region.wanted o (yielded ops a.tmps)=true:=by simp[Region.wanted,hgd]
 rw[if_pos hw];have hr:(execOp a.eval o).run P w=.ok (.enter f vs) w:=by
  unfold execOp;simp[ho,resolve,invoke,Act.eval,hent,Deferred.ofValue];exact hvs
 unfold Oper.wp;rw[hr,Oper.upon_enter];refine hC.mono ?_;rintro e w' ⟨v,rfl,hR⟩;exact h v w' hR
end
end Go.Proofs.YtedcakchekaemaaGreatDoor
namespace Go.Proofs.YtedcakchekaemaaGreatDoor
open Go.RowKit
structure bS where
 name:ByteArray
 on:Bool
 items:List bJ
structure EN where
 online:Bool
 bd:Int
 want:Int
 begun:Bool
 pending:Bool
 items:List bJ
 al:dY
 dev:List bS
structure DW where
 blk:Nat
 a:Option Addr
 cap:Nat
 lives:Int
structure EW where
 rb:Nat
 tb:Nat
 tm:Nat
 ia:Option Addr
 ic:Nat
 dv:Value
 ds:List DW
def bP(a:Option Addr):List Nat:=(a.map (·.block)).toList
def iO(d:DW):List Value:=[.pointer (some ⟨d.blk,0,none⟩)]
theorem vC(d:DW):(iO d).length=1:=rfl
def fF(w:World)(d:DW)(x:bS):Prop:=
 w.heap[d.blk]?=some (.cells #[.string x.name,.bool x.on,.slice d.a x.items.length d.cap,.int .i64 d.lives] 214 (0,0))/\aM 0 w d.a d.cap x.items/\x.name.toList.isEmpty=false/\x.items.length<=32
def EW.feet(L:EW)(n:Nat):List Nat:=n::L.rb::L.tb::L.tm::(bP L.ia++(L.dv.ownBlock.toList++L.ds.flatMap fun d=>d.blk::bP d.a))
def Kv(g nm:ByteArray)(L:EW)(s:EN):Array Value:=#[.string g,.string nm,.bool s.online,.int .i64 s.bd,.pointer (some ⟨L.rb,0,none⟩),.bool s.pending,.slice L.ia s.items.length L.ic,.pointer (some ⟨L.tb,0,none⟩),L.dv]
structure au (w:World) (n:Nat) (g nm:ByteArray) (L:EW) (s:EN):Prop where
 row:w.heap[n]?=some (.cells (Kv g nm L s) 159 (0,0))
 rrow:Sq.RowAt w L.rb s.want s.begun
 tab:uS w L.tb L.tm s.al
 its:aM 0 w L.ia L.ic s.items
 dvs:Sl 164 iO 1 0 w L.dv L.ds
 len:s.dev.length=L.ds.length
 devs: ∀(i:Nat) d x,L.ds[i]?=some d->s.dev[i]?=some x->fF w d x
 apart:(L.feet n).Nodup
 few:s.items.length<=32/\s.al.length<=64/\s.dev.length<=4
theorem bG{a:Option Addr}{b:Nat}(h:a.map (·.block)=some b):b∈bP a:=by unfold bP;rw[h];simp
theorem au.own{S:List Nat}{w w':World}{n:Nat}{g nm:ByteArray}{L:EW}{s:EN}(h:au w n g nm L s)(ho:ai S w w')(hS: ∀x∈L.feet n,x∉S):au w' n g nm L s:=by
 have h1: ∀b,L.ia.map (·.block)=some b->b∉S:=fun b hb=>hS b (by unfold EW.feet;simp[bG hb])
 refine⟨ho.heap h.row (hS n (by unfold EW.feet;simp)),h.rrow.own ho (hS _ (by unfold EW.feet;simp)),h.tab.own ho (hS _ (by unfold EW.feet;simp)) (hS _ (by unfold EW.feet;simp)),h.its.own' ho h1,h.dvs.own ho (fun b hb=>hS b (by unfold EW.feet;simp[hb])),h.len,fun i d x hd hx=>?_,h.apart,h.few⟩;obtain⟨k1,k2,k3⟩:=h.devs i d x hd hx;have hm:d∈L.ds:=List.mem_of_getElem? hd;have hf: ∀b,b∈d.blk::bP d.a->b∉S:=fun b hb=>hS b (by
  unfold EW.feet;simp only[List.mem_cons,List.mem_append,List.mem_flatMap];exact .inr (.inr (.inr (.inr (.inr (.inr ⟨d,hm,by simpa using hb⟩))))))
 exact⟨ho.heap k1 (hf _ (by simp)),k2.own' ho (fun b hb=>hf b (List.mem_cons_of_mem _ (bG hb))),k3⟩
theorem au.nil'{w w':World}{n:Nat}{g nm:ByteArray}{L:EW}{s:EN}(h:au w n g nm L s)(ho:ai [] w w'):au w' n g nm L s:=h.own ho (by simp)
theorem aM.blt{B:Nat}{w:World}{a:Option Addr}{cap:Nat}{L:List bJ}(h:aM B w a cap L){b:Nat}(hb:a.map (·.block)=some b):b<w.heap.size:=by
 cases a with
 |none=>cases hb
 |some q=>
  rcases h.own.2 with⟨h1,_⟩|⟨g,cap',cur,he,_,hg,_⟩
  ·cases h1
  ·cases he
   cases hb;exact aj hg
theorem au.lt{w:World}{n:Nat}{g nm:ByteArray}{L:EW}{s:EN}(h:au w n g nm L s): ∀x∈L.feet n,x<w.heap.size:=by
 intro x hx;unfold EW.feet at hx;simp only[List.mem_cons,List.mem_append,List.mem_flatMap]at hx;rcases hx with rfl|rfl|rfl|rfl|hx|hx|⟨d,hd,hx⟩
 ·exact aj h.row
 ·exact aj h.rrow.1
 ·exact h.tab.lt.1
 ·exact h.tab.lt.2
 ·unfold bP at hx;exact h.its.blt (Option.mem_toList.1 hx)
 ·exact(h.dvs.block (Option.mem_toList.1 hx)).2
 ·obtain⟨i,hi⟩:=List.getElem?_of_mem hd
  have hil:i<s.dev.length:=by rw[h.len];exact(List.getElem?_eq_some_iff.1 hi).1
  obtain⟨k1,k2,_⟩:=h.devs i d _ hi (List.getElem?_eq_getElem hil);rcases hx with rfl|hx
  ·exact aj k1
  ·unfold bP at hx;exact k2.blt (Option.mem_toList.1 hx)
def dQ(n:Nat)(g nm:ByteArray)(L:EW)(r:Int×EN)(w:World)(e:Ending)(w':World):Prop:=
 e=.returned (.int .i64 r.1)/\ ∃L',au w' n g nm L' r.2/\ai (L.feet n) w w'/\(∀x∈L'.feet n,x∈L.feet n\/w.heap.size<=x)
theorem au.same{n:Nat}{g nm:ByteArray}{L:EW}{s:EN}{w w':World}(h:au w n g nm L s)(ho:ai [] w w'): ∃L',au w' n g nm L' s/\ai (L.feet n) w w'/\(∀x∈L'.feet n,x∈L.feet n\/w.heap.size<=x):=
 ⟨L,h.nil' ho,ho.nil,fun _ hx=>.inl hx⟩
theorem pR{w:World}{a:Option Addr}{L:List bJ}(h:bB w a L):gT w a L.length (dU L):=by
 refine⟨h.1,fun hl=>?_⟩;obtain⟨b,o,rfl,hb,hx⟩:=h.2 hl;exact⟨b,o,rfl,hb,fun i hi=>hx i _ (oC hi)⟩
theorem nE(L:List bJ):fw L.length (dU L)=L:=by
 unfold fw;refine List.ext_getElem? fun i=>?_
 rw[List.getElem?_map];by_cases hi:i<L.length
 ·rw[List.getElem?_range hi,oC hi];rfl
 ·rw[List.getElem?_eq_none (by simpa using hi),List.getElem?_eq_none (by simpa using hi)];rfl
def jA(e:Int):Int:=if e=0 then 1 else if e=16 then 10 else 8
def iP:ByteArray:=⟨#[]⟩
def pU(s:EN)(p:iI):Int×EN:=
 if p.bd.2=false then(9,s)else if p.seq.2=false then(4,s)else if(dB p.M).1≠1 then((dB p.M).1,s)
 else if jA (pO [] iP (dB p.M).2).1≠1 then(jA (pO [] iP (dB p.M).2).1,s)
 else(1,⟨true,p.bd.1,(p.seq.1+1)%256,true,false,(dB p.M).2,(pO [] iP (dB p.M).2).2,[]⟩)
def iU(s:EN)(p:iI):Bool:=p.seq.2&&(s.begun&&p.seq.1==s.want)
def vD(s:EN)(p:iI):Int×EN:=
 if s.online=false then(5,s)else if iU s p=false then(4,s)
 else if(fZ (gK s.al iP) p.M s.items).1≠1 then((fZ (gK s.al iP) p.M s.items).1,s)
 else(1,{s with items:=(fZ (gK s.al iP) p.M s.items).2,want:=(p.seq.1+1)%256})
def fe(r:Int×EN):Int×EN:=if 3<=r.1 then(r.1,{r.2 with pending:=true})else r
theorem Me(n:Int)(h0:0<=n):0<=(nQ n).1/\(nQ n).1<256:=by unfold nQ;split<;>simp<;>omega
theorem iI.seq_ok(p:iI)(h0:0<=p.s):0<=p.seq.1/\p.seq.1<256:=by unfold iI.seq;split;exact Me _ h0;simp
theorem vE(l:dY)(ow:ByteArray)(L:List bJ)(hl:l.length<=64):(pO l ow L).2.length<=64:=by
 unfold pO uD;cases hf:je ow L []with
 |none=>simp;exact hl
 |some want=>
  simp only;by_cases h1:eP l ow want=true
  ·simp[h1];exact hl
  ·by_cases h2:64<(aJ l ow).length+want.length
   ·simp[h1,h2];exact hl
   ·simp[h1,h2];omega
theorem Bc(F:Int->ByteArray×Bool): ∀(M:List bW) (L:List bJ),(fZ F M L).2.length<=L.length:=by
 intro M;induction M with
 |nil=>intro L;simp[fZ]
 |cons m r ih=>
  intro L;unfold fZ
  repeat' split
  all_goals first|simp|(refine Nat.le_trans (ih _) ?_;simp)|exact ih _
def eG(w:World)(p:iI):World:=w.alloc (.cells #[.int .u64 p.t,.bool p.h,.int .u64 p.s,.string p.u,.string p.b,.slice p.a p.M.length p.c] 54)
theorem dS(w:World)(p:iI):ai [] w (eG w p):=(ai.refl _ _).alloc _
theorem bH(w:World)(p:iI){S:List Nat}(hS:w.heap.size∉S)(W:World)(ho:ai S (eG w p) W):W.cell? ⟨w.heap.size,0,none⟩=some (.int .u64 p.t)/\W.cell? ⟨w.heap.size,1,none⟩=some (.bool p.h)/\W.cell? ⟨w.heap.size,2,none⟩=some (.int .u64 p.s)/\W.cell? ⟨w.heap.size,3,none⟩=some (.string p.u)/\W.cell? ⟨w.heap.size,4,none⟩=some (.string p.b)/\W.cell? ⟨w.heap.size,5,none⟩=some (.slice p.a p.M.length p.c):=by
 have hrow:(eG w p).heap[w.heap.size]?=some (.cells #[.int .u64 p.t,.bool p.h,.int .u64 p.s,.string p.u,.string p.b,.slice p.a p.M.length p.c] 54 (0,0)):=heap_alloc_new _ _;have hr:=ho.heap hrow hS;exact⟨cell_of_row W _ 0 _ _ _ hr,cell_of_row W _ 1 _ _ _ hr,cell_of_row W _ 2 _ _ _ hr,cell_of_row W _ 3 _ _ _ hr,cell_of_row W _ 4 _ _ _ hr,cell_of_row W _ 5 _ _ _ hr⟩
theorem aR{w:World}{n:Nat}{g nm:ByteArray}{L:EW}{s:EN}(h:au w n g nm L s){S:List Nat}(hS:n∉S)(W:World)(ho:ai S w W):
  (W.cell? ⟨n,2,none⟩=some (.bool s.online)/\W.cell? ⟨n,3,none⟩=some (.int .i64 s.bd)/\W.cell? ⟨n,4,none⟩=some (.pointer (some ⟨L.rb,0,none⟩))/\W.cell? ⟨n,5,none⟩=some (.bool s.pending)/\W.cell? ⟨n,6,none⟩=some (.slice L.ia s.items.length L.ic)/\W.cell? ⟨n,7,none⟩=some (.pointer (some ⟨L.tb,0,none⟩))/\W.cell? ⟨n,8,none⟩=some L.dv)/\
  (W.frozen? ⟨n,2,none⟩=false/\W.frozen? ⟨n,3,none⟩=false/\W.frozen? ⟨n,5,none⟩=false/\W.frozen? ⟨n,6,none⟩=false/\W.frozen? ⟨n,7,none⟩=false/\W.frozen? ⟨n,8,none⟩=false):=by
 have hr:=ho.heap h.row hS;exact⟨⟨cell_of_row W _ 2 _ _ _ hr,cell_of_row W _ 3 _ _ _ hr,cell_of_row W _ 4 _ _ _ hr,cell_of_row W _ 5 _ _ _ hr,cell_of_row W _ 6 _ _ _ hr,cell_of_row W _ 7 _ _ _ hr,cell_of_row W _ 8 _ _ _ hr⟩,frozen_of_row _ _ _ _ _ hr,frozen_of_row _ _ _ _ _ hr,frozen_of_row _ _ _ _ _ hr,frozen_of_row _ _ _ _ _ hr,frozen_of_row _ _ _ _ _ hr,frozen_of_row _ _ _ _ _ hr⟩
theorem wT{w:World}{n:Nat}{g nm:ByteArray}{L:EW}{s:EN}(h:au w n g nm L s):n≠L.rb/\n≠L.tb/\n≠L.tm/\L.rb≠L.tb/\L.rb≠L.tm:=by
 have:=h.apart;unfold EW.feet at this;simp only[List.nodup_cons,List.mem_cons,not_or]at this;exact⟨this.1.1,this.1.2.1,this.1.2.2.1,this.2.1.1,this.2.1.2.1⟩
theorem VA{w:World}{b:Nat}{v0 v1 v2:Value}{T:TypeId}(h:w.heap[b]?=some (.cells #[v0,v1,v2] T (0,0))):
  (w.cell? ⟨b,0,none⟩=some v0/\w.cell? ⟨b,1,none⟩=some v1/\w.cell? ⟨b,2,none⟩=some v2)/\(w.frozen? ⟨b,0,none⟩=false/\w.frozen? ⟨b,1,none⟩=false/\w.frozen? ⟨b,2,none⟩=false):=
 ⟨⟨ay h rfl,ay h rfl,ay h rfl⟩,aZ h 0,aZ h 1,aZ h 2⟩
theorem Cj{w:World}{b:Nat}{v0 v1 v2 v3:Value}{T:TypeId}(h:w.heap[b]?=some (.cells #[v0,v1,v2,v3] T (0,0))):
  (w.cell? ⟨b,0,none⟩=some v0/\w.cell? ⟨b,1,none⟩=some v1/\w.cell? ⟨b,2,none⟩=some v2/\w.cell? ⟨b,3,none⟩=some v3)/\(w.frozen? ⟨b,0,none⟩=false/\w.frozen? ⟨b,1,none⟩=false/\w.frozen? ⟨b,2,none⟩=false/\w.frozen? ⟨b,3,none⟩=false):=
 ⟨⟨ay h rfl,ay h rfl,ay h rfl,ay h rfl⟩,aZ h 0,aZ h 1,aZ h 2,aZ h 3⟩
theorem fF.own{S:List Nat}{w w':World}{d:DW}{x:bS}(h:fF w d x)(ho:ai S w w')(hb:d.blk∉S)(ha: ∀b,d.a.map (·.block)=some b->b∉S):fF w' d x:=
 ⟨ho.heap h.1 hb,h.2.1.own' ho ha,h.2.2⟩
theorem fF.nil'{w w':World}{d:DW}{x:bS}(h:fF w d x)(ho:ai [] w w'):fF w' d x:=h.own ho (by simp) (by simp)
theorem oG(b:Nat)(nm:ByteArray)(w:World)(h:w.cell? ⟨b,0,none⟩=some (.string nm))(hn:nm.toList.isEmpty=false):
  Calls Tryz.prog 103 #[.pointer (some ⟨b,0,none⟩)] w fun e w'=>e=.returned (.bool false)/\w=w':=by
 go_enter Tryz.func103,Tryz.ntmps103
 go_wp2_with fail
 go_ret
 exact⟨rfl,rfl⟩
theorem Eu(d:DW)(x:bS)(w:World)(h:fF w d x):
  Calls Tryz.prog 311 #[.pointer (some ⟨d.blk,0,none⟩)] w fun e w'=>e=.returned (.bool x.on)/\w=w':=by
 obtain⟨⟨k0,k1,k2,k3⟩,_⟩:=Cj h.1;have cN:=af (oG d.blk x.name w k0 h.2.2.1);clear h k2 k3;go_enter Tryz.func311,Tryz.ntmps311
 go_wp2_with(go_at_call 103;(with_reducible refine cN.out.mono ?_);rintro e w1 ⟨rfl,rfl⟩)
 go_ret
 exact⟨by simp,rfl⟩
theorem wK(d:DW)(x:bS)(w:World)(h:fF w d x):
  Calls Tryz.prog 62 #[.pointer (some ⟨d.blk,0,none⟩)] w fun e w'=> ∃a cap,e=.returned (.agg #[.string x.name,.bool x.on,.slice a x.items.length cap])/\aM w.heap.size w' a cap x.items/\ai [] w w':=by
 obtain⟨⟨k0,k1,k2,k3⟩,_⟩:=Cj h.1;have hlt:d.blk<w.heap.size:=aj h.1;have hl:=h.2.2.2;have cN:=fun W (ho:ai [] w W)=>oG d.blk x.name W (Cj (ho.heap h.1 (by simp))).1.1 h.2.2.1
 have cC:=fun W (ho:ai [] w W)=>oF d.a x.items d.cap W ((h.2.1.nil' ho).at_ (by omega)) (by omega)
 unfold oD at cC;have hA1:ai [] w (w.alloc (.cells #[.string ⟨#[]⟩,.bool false,.slice none 0 0] 46)):=(ai.refl _ _).alloc _;have hA2:ai [] w ((w.alloc (.cells #[.string ⟨#[]⟩,.bool false,.slice none 0 0] 46)).alloc (.cells #[.string x.name,.bool x.on,.slice d.a x.items.length d.cap] 46)):=hA1.alloc _;have hr1:((w.alloc (.cells #[.string ⟨#[]⟩,.bool false,.slice none 0 0] 46)).alloc (.cells #[.string x.name,.bool x.on,.slice d.a x.items.length d.cap] 46)).heap[w.heap.size]?=some (.cells #[.string ⟨#[]⟩,.bool false,.slice none 0 0] 46 (0,0)):=
  ((ai.refl [] _).alloc _).heap (heap_alloc_new w _) (by simp)
 have hr2:((w.alloc (.cells #[.string ⟨#[]⟩,.bool false,.slice none 0 0] 46)).alloc (.cells #[.string x.name,.bool x.on,.slice d.a x.items.length d.cap] 46)).heap[w.heap.size+1]?=some (.cells #[.string x.name,.bool x.on,.slice d.a x.items.length d.cap] 46 (0,0)):=by
  have:=heap_alloc_new (w.alloc (.cells #[.string ⟨#[]⟩,.bool false,.slice none 0 0] 46)) (.cells #[.string x.name,.bool x.on,.slice d.a x.items.length d.cap] 46);simpa using this
 have hfin: ∀w3 w4 a cap,aM (w.heap.size+2) w3 a cap x.items->ai [] w w3->ai [w.heap.size,w.heap.size+1] w3 w4->aM w.heap.size w4 a cap x.items/\ai [] w w4:=fun w3 w4 a cap hR ho ho4=>by
  have h1:=hR.own' ho4 (fun b hb=>by
   have:=hR.fresh;cases a with
   |none=>cases hb
   |some q=>cases hb;have:=this q rfl;simp;omega)
  exact⟨⟨h1.own,fun q hq=>by have:=h1.fresh q hq;omega,h1.good⟩,ho.trans' ho4 (fun y hy=>.inr (by simp at hy;omega))⟩
 have cN1:=af (cN _ hA1);have cC2:=cC _ hA2;have hsz:((w.alloc (.cells #[.string ⟨#[]⟩,.bool false,.slice none 0 0] 46)).alloc (.cells #[.string x.name,.bool x.on,.slice d.a x.items.length d.cap] 46)).heap.size=w.heap.size+2:=by simp
 rw[hsz]at cC2;replace cC2:=af cC2;clear cC cN h hsz;generalize x.items=its at*;generalize x.name=nm at*;generalize x.on=on at*;change Hid _ at hA1 hr1 hr2 hfin;replace hA2:=af hA2;go_enter Tryz.func62,Tryz.ntmps62
 go_wp2_with(first
  |(go_at_call 103;(with_reducible refine cN1.out.mono ?_);rintro e w1 ⟨rfl,rfl⟩)
  |(go_at_call 60;(with_reducible refine cC2.out.mono ?_);rintro e w3 ⟨a,cap,rfl,fB,hO3⟩;obtain⟨⟨c0,c1,c2⟩,f0,f1,f2⟩:=VA (hO3.heap hr1.out (by simp));obtain⟨⟨d0,d1,d2⟩,e0,e1,e2⟩:=VA (hO3.heap hr2.out (by simp));replace fB:=af fB;replace hO3:=af (hA2.out.trans hO3)))
 refine bodyPost_ret (v:=.agg #[.string nm,.bool on,.slice a its.length cap]) (by simp[results,Tryz.results62,go_sem,c0,c1,c2,d0,d1,d2,f0,f1,f2,e0,e1,e2]) rfl ⟨a,cap,rfl,hfin.out _ _ _ _ fB.out hO3.out ?_⟩
 repeat(first|refine ai.setCell ?_ (.inl (by simp)) _|with_reducible exact ai.refl _ _)
theorem iK(n:Nat)(b:Addr)(w:World)(h:w.cell? ⟨n,4,none⟩=some (.pointer (some b))):Calls Tryz.prog 59 #[.pointer (some ⟨n,0,none⟩)] w fun e w'=>e=.returned (.bool false)/\w=w':=by
 go_enter Tryz.func59,Tryz.ntmps59
 go_wp2_with fail
 go_ret
 exact⟨rfl,rfl⟩
theorem wU(n:Nat)(g nm:ByteArray)(L:EW)(s:EN)(p:iI)(w:World)(h:au w n g nm L s)(h0:0<=p.s):
  Calls Tryz.prog 267 #[.pointer (some ⟨n,0,none⟩),p.val] w fun e w'=>e=.returned (.bool (iU s p))/\ai [] w w':=by
 have hW0:=dS w p;have hP:=fun W (ho:ai [] (eG w p) W)=>bH w p (S:=[]) (by simp) W ho
 have cS:=za p (eG w p) h0;have hC:=fun W (ho:ai [] w W)=>aR h (S:=[]) (by simp) W ho
 have cF:=fun x W (ho:ai [] w W)=>Sq.fits_any L.rb s.want s.begun x W (h.rrow.own ho (by simp))
 unfold iU;have hv:p.val=.agg #[.int .u64 p.t,.bool p.h,.int .u64 p.s,.string p.u,.string p.b,.slice p.a p.M.length p.c]:=rfl;rw[hv]at cS⊢;simp only[eG]at hW0 hP cS;generalize p.seq=sq at*;generalize p.t=pt at*;generalize p.h=ph at*;generalize p.s=ps at*;generalize p.u=pu at*;generalize p.b=pb at*;generalize p.a=pa at*;generalize p.c=pc at*;generalize p.M.length=pl at*;obtain⟨sq1,sq2⟩:=sq;simp only at*;obtain⟨q0,q1,q2,q3,q4,q5⟩:=hP _ (ai.refl _ _);clear hv h h0 hP;generalize hbw:(s.begun&&sq1==s.want)=bw at*;have Ld:=fun W ho=>cF sq1 W ho
 rw[hbw]at Ld;change Hid _ at hC Ld;replace hW0:=af hW0;replace cS:=af cS;clear hbw cF;cases sq2
 ·go_enter Tryz.func267,Tryz.ntmps267
  go_wp2_with(go_at_call 259;(with_reducible refine cS.out.mono ?_);rintro e w2 ⟨rfl,hO2⟩;replace hO2:=af (hW0.out.trans hO2))
  go_ret
  exact⟨rfl,hO2.out⟩
 ·go_enter Tryz.func267,Tryz.ntmps267
  go_wp2_with(first
   |(go_at_call 259;(with_reducible refine cS.out.mono ?_);rintro e w2 ⟨rfl,hO2⟩;replace hO2:=hW0.out.trans hO2;obtain⟨⟨k2,k3,k4,k5,k6,k7,k8⟩,_⟩:=hC.out _ hO2;have Dx:=af (Ld.out _ hO2);replace hO2:=af hO2)
   |(go_at_call 303;(with_reducible refine Dx.out.mono ?_);rintro e w3 ⟨rfl,rfl⟩))
  go_ret
  exact⟨by simp,hO2.out⟩
theorem sN(n:Nat)(g nm:ByteArray)(L:EW)(s:EN)(p:iI)(w:World)(h:au w n g nm L s)(h0:0<=p.s)(hf:iU s p=true):
  Calls Tryz.prog 269 #[.pointer (some ⟨n,0,none⟩),p.val] w fun e w'=>e=.returned (.int .i64 1)/\au w' n g nm L {s with want:=(p.seq.1+1)%256}/\ai [L.rb] w w':=by
 have hW0:=dS w p;have cS:=za p (eG w p) h0;have hsq:=p.seq_ok h0;have hC:=fun W (ho:ai [] w W)=>aR h (S:=[]) (by simp) W ho
 unfold iU at hf;simp only[Bool.and_eq_true,beq_iff_eq]at hf;obtain⟨hf1,hf2,hf3⟩:=hf;have hst:Sq.sTake s.want s.begun p.seq.1=(0,(p.seq.1+1)%256,true):=by unfold Sq.sTake;rw[if_pos hsq,hf2,if_pos rfl,if_pos hf3]
 have cT:=fun W (ho:ai [] w W)=>Sq.take_any L.rb s.want s.begun p.seq.1 W (h.rrow.own ho (by simp))
 rw[hst]at cT;unfold Sq.RowPost at cT;have hend: ∀w2 w3,ai [] w w2->ai [L.rb] w2 w3->Sq.RowAt w3 L.rb ((p.seq.1+1)%256) true->au w3 n g nm L {s with want:=(p.seq.1+1)%256}/\ai [L.rb] w w3:=fun w2 w3 ho ho3 hr=>by
  refine⟨?_,ho.nil.trans ho3⟩;have h2:=h.nil' ho;have hA:=h.apart;have hF:=wT h;unfold EW.feet at hA;simp only[List.nodup_cons,List.mem_cons,List.mem_append,not_or]at hA;have hno: ∀x∈L.feet n,x≠L.rb->x∉[L.rb]:=fun x _ hx=>by simpa using hx
  refine⟨ho3.heap h2.row (by simpa using hF.1),hf2▸hr,h2.tab.own ho3 (by simpa using Ne.symm hF.2.2.2.1) (by simpa using Ne.symm hF.2.2.2.2),h2.its.own' ho3 (fun b hb=>?_),h2.dvs.own ho3 (fun b hb=>?_),h.len,fun i d x hd hx=>?_,h.apart,h.few⟩
  ·have:=bG hb
   simp;rintro rfl;exact hA.2.1.2.2.1 this
  ·simp;rintro rfl
   exact hA.2.1.2.2.2.1 (by simp[hb])
  ·obtain⟨k1,k2,k3⟩:=h2.devs i d x hd hx
   have hm:d∈L.ds:=List.mem_of_getElem? hd;have hn2: ∀b,b∈d.blk::bP d.a->b≠L.rb:=fun b hb e=>by
    subst e;exact hA.2.1.2.2.2.2 (List.mem_flatMap.2 ⟨d,hm,hb⟩)
   exact⟨ho3.heap k1 (by simpa using hn2 _ (List.mem_cons_self ..)),k2.own' ho3 (fun b hb=>by simpa using hn2 b (List.mem_cons_of_mem _ (bG hb))),k3⟩
 have hv:p.val=.agg #[.int .u64 p.t,.bool p.h,.int .u64 p.s,.string p.u,.string p.b,.slice p.a p.M.length p.c]:=rfl;have hP:=bH w p (S:=[]) (by simp) _ (ai.refl _ _);rw[hv]at cS⊢;simp only[eG]at hW0 hP cS;generalize p.seq=sq at*;generalize p.t=pt at*;generalize p.h=ph at*;generalize p.s=ps at*;generalize p.u=pu at*;generalize p.b=pb at*;generalize p.a=pa at*;generalize p.c=pc at*;generalize p.M.length=pl at*;obtain⟨sq1,sq2⟩:=sq;simp only at*;obtain⟨q0,q1,q2,q3,q4,q5⟩:=hP;change Hid _ at hC cT hend;replace hW0:=af hW0;replace cS:=af cS;clear hv h h0 hst hf1 hf2 hf3 hsq;go_enter Tryz.func269,Tryz.ntmps269
 go_wp2_with(first
  |(go_at_call 259;(with_reducible refine cS.out.mono ?_);rintro e w2 ⟨rfl,hO2⟩;replace hO2:=hW0.out.trans hO2;obtain⟨⟨k2,k3,k4,k5,k6,k7,k8⟩,_⟩:=hC.out _ hO2;have cT2:=af (cT.out _ hO2);replace hO2:=af hO2)
  |(go_at_call 305;(with_reducible refine cT2.out.mono ?_);rintro e w3 ⟨rfl,hr3,hO3⟩;replace hr3:=af hr3;replace hO3:=af hO3))
 go_ret
 exact⟨rfl,hend.out _ _ hO2.out hO3.out hr3.out⟩
theorem IK{L:EW}{n B:Nat}(h:(L.feet n).Nodup)(hlt: ∀x∈L.feet n,x<B){a:Option Addr}(ha: ∀b,a.map (·.block)=some b->B<=b)(cap:Nat):
  (({L with ia:=a,ic:=cap}:EW).feet n).Nodup/\ ∀x∈({L with ia:=a,ic:=cap}:EW).feet n,x∈L.feet n\/B<=x:=by
 unfold EW.feet at h hlt⊢;simp only;generalize hr:(L.dv.ownBlock.toList++L.ds.flatMap fun d=>d.blk::bP d.a)=R at h hlt⊢;have hsub:(n::L.rb::L.tb::L.tm::R).Sublist (n::L.rb::L.tb::L.tm::(bP L.ia++R)):=(((List.Sublist.cons_cons _ ((List.sublist_append_right _ _).cons_cons _ |>.cons_cons _ |>.cons_cons _))));have h2:=h.sublist hsub;have hlt2: ∀x∈n::L.rb::L.tb::L.tm::R,x<B:=fun x hx=>hlt x (hsub.subset hx)
 have hp:(n::L.rb::L.tb::L.tm::(bP a++R)).Perm (bP a++(n::L.rb::L.tb::L.tm::R)):=by
  have:=List.perm_append_comm_assoc [n,L.rb,L.tb,L.tm] (bP a) R;simpa using this
 have hm: ∀b∈bP a,B<=b:=fun b hb=>ha b (by unfold bP at hb;exact Option.mem_toList.1 hb)
 refine⟨hp.nodup_iff.2 (List.nodup_append.2 ⟨by unfold bP;cases a<;>simp,h2,fun x hx y hy e=>?_⟩),fun x hx=>?_⟩
 ·have:=hm x hx;have:=hlt2 y hy;omega
 ·rcases List.mem_append.1 (hp.subset hx)with h3|h3
  ·exact .inr (hm x h3)
  ·exact .inl (hsub.subset h3)
theorem au.setItems{w w2:World}{n:Nat}{g nm:ByteArray}{L:EW}{s:EN}(h:au w n g nm L s)(ho:ai [] w w2){a:Option Addr}{cap:Nat}{l:List bJ}(hR:aM w.heap.size w2 a cap l)(hl:l.length<=32):
  au (w2.setCell ⟨n,6,none⟩ (.slice a l.length cap)) n g nm {L with ia:=a,ic:=cap} {s with items:=l}/\ai [n] w2 (w2.setCell ⟨n,6,none⟩ (.slice a l.length cap))/\(∀x∈({L with ia:=a,ic:=cap}:EW).feet n,x∈L.feet n\/w.heap.size<=x):=by
 have hO2:ai [n] w2 (w2.setCell ⟨n,6,none⟩ (.slice a l.length cap)):=(ai.refl _ _).setCell (by simp) _;have hab: ∀b,a.map (·.block)=some b->w.heap.size<=b:=fun b hb=>by
  cases a with
  |none=>cases hb
  |some p=>cases hb;exact hR.fresh p rfl
 have hF:=IK h.apart h.lt hab cap;have hln:n<w.heap.size:=aj h.row;have hA:=h.apart;unfold EW.feet at hA;simp only[List.nodup_cons,List.mem_cons,List.mem_append,not_or]at hA;obtain⟨⟨a1,a2,a3,a4,a5,a6⟩,_⟩:=hA;have h2:=h.nil' ho;refine⟨⟨heap_setCell_same _ _ _ _ _ _ h2.row,h2.rrow.own hO2 (by simpa using Ne.symm a1),h2.tab.own hO2 (by simpa using Ne.symm a2) (by simpa using Ne.symm a3),?_,h2.dvs.own hO2 (fun b hb=>?_),h.len,fun i d x hd hx=>?_,hF.1,⟨hl,h.few.2⟩⟩,hO2,hF.2⟩
 ·have:=hR.own' hO2 (fun b hb=>by have:=hab b hb;simp;omega)
  exact⟨this.own,fun q _=>Nat.zero_le _,this.good⟩
 ·simp;rintro rfl
  exact a5 (by simp[hb])
 ·obtain⟨k1,k2,k3⟩:=h2.devs i d x hd hx
  have hm:d∈L.ds:=List.mem_of_getElem? hd;have hn2: ∀b,b∈d.blk::bP d.a->b≠n:=fun b hb e=>by
   subst e;exact a6 (List.mem_flatMap.2 ⟨d,hm,hb⟩)
  exact⟨hO2.heap k1 (by simpa using hn2 _ (List.mem_cons_self ..)),k2.own' hO2 (fun b hb=>by simpa using hn2 b (List.mem_cons_of_mem _ (bG hb))),k3⟩
theorem Cz(v:Value)(w:World):(Go.method 677 455 (.agg #[v]) "crier/device.needsLife").run Tryz.prog w=.ok (423,.agg #[v]) w:=by kernel_rfl
theorem EU(v:Value)(w:World):(Go.method 677 433 (.agg #[v]) "crier/device.needsLife").run Tryz.prog w=.ok (421,.agg #[v]) w:=by kernel_rfl
theorem CB(w:World):(Go.method 677 425 (.agg #[]) "crier/device.needsLife").run Tryz.prog w=.ok (420,.agg #[]) w:=by kernel_rfl
theorem abX(v:Value)(w:World):(Instr.typeAssert (.iface 455 (.agg #[v])) 454 455 true).run Tryz.prog w=.ok (.tuple #[.agg #[v],.bool true]) w:=by kernel_rfl
theorem abY(v:Value)(w:World):(Instr.typeAssert (.iface 433 (.agg #[v])) 454 455 true).run Tryz.prog w=.ok (.tuple #[.agg #[.slice none 0 0],.bool false]) w:=by kernel_rfl
theorem abZ(w:World):(Instr.typeAssert (.iface 425 (.agg #[])) 454 455 true).run Tryz.prog w=.ok (.tuple #[.agg #[.slice none 0 0],.bool false]) w:=by kernel_rfl
theorem ab0(v:Value)(w:World):(Instr.typeAssert (.iface 433 (.agg #[v])) 454 433 true).run Tryz.prog w=.ok (.tuple #[.agg #[v],.bool true]) w:=by kernel_rfl
theorem ab1(w:World):(Instr.typeAssert (.iface 425 (.agg #[])) 454 433 true).run Tryz.prog w=.ok (.tuple #[.agg #[.slice none 0 0],.bool false]) w:=by kernel_rfl
theorem ab2(w:World):(Instr.typeAssert (.iface 425 (.agg #[])) 454 425 true).run Tryz.prog w=.ok (.tuple #[.agg #[],.bool true]) w:=by kernel_rfl
def nG(d:DW)(x':bS)(w:World)(e:Ending)(w':World):Prop:=e=.returned (.int .i64 0)/\ ∃d',d'.blk=d.blk/\fF w' d' x'/\ai [d.blk] w w'/\(∀b,d'.a.map (·.block)=some b->d.a.map (·.block)=some b\/w.heap.size<=b)
theorem KM{d:DW}{x x':bS}{w w3 w4:World}{a:Option Addr}{cap:Nat}{li:Int}(h:fF w d x)(hn:x'.name=x.name)(hl:x'.items.length<=32)(ho:ai [] w w3)(hR:aM w.heap.size w3 a cap x'.items)(h4:w4.heap[d.blk]?=some (.cells #[.string x.name,.bool x'.on,.slice a x'.items.length cap,.int .i64 li] 214 (0,0)))(ho4:ai [d.blk] w3 w4):
  ∃d',d'.blk=d.blk/\fF w4 d' x'/\ai [d.blk] w w4/\(∀b,d'.a.map (·.block)=some b->d.a.map (·.block)=some b\/w.heap.size<=b):=by
 have hlt:d.blk<w.heap.size:=aj h.1;have hf: ∀b,a.map (·.block)=some b->w.heap.size<=b:=fun b hb=>by
  cases a with
  |none=>cases hb
  |some q=>cases hb;exact hR.fresh q rfl
 have h1:=hR.own' ho4 (fun b hb=>by have:=hf b hb;simp;omega);exact⟨⟨d.blk,a,cap,li⟩,rfl,⟨by rw[hn];exact h4,⟨h1.own,fun _ _=>Nat.zero_le _,h1.good⟩,by rw[hn];exact h.2.2.1,hl⟩,ho.nil.trans ho4,fun b hb=>.inr (hf b hb)⟩
theorem MO(d:DW)(x:bS)(a:Option Addr)(l:List bJ)(c:Nat)(w:World)(h:fF w d x)(hA:bB w a l)(hl:l.length<=32):
  Calls Tryz.prog 302 #[.pointer (some ⟨d.blk,0,none⟩),.iface 455 (.agg #[.slice a l.length c])] w (nG d ⟨x.name,true,l⟩ w):=by
 have mb:=Cz;have ab:=abX;obtain⟨⟨k0,k1,k2,k3⟩,_⟩:=Cj h.1;have hlt:d.blk<w.heap.size:=aj h.1;have cN:=af (oG d.blk x.name w k0 h.2.2.1);have cC:=af fun W (ho:ai [] w W)=>oF a l c W (hA.nil' ho) (by omega)
 unfold oD at cC;have hr:=af fun W (ho:ai [] w W)=>ho.heap h.1 (by simp)
 have hend:=af fun w3 w4 a cap li=>KM (x':=⟨x.name,true,l⟩) (w3:=w3) (w4:=w4) (a:=a) (cap:=cap) (li:=li) h rfl hl
 have hA2:=af (show ai [] w ((w.alloc (.cells #[.slice a l.length c] 455)).alloc (.cells #[.slice a l.length c] 455))from((ai.refl _ _).alloc _).alloc _);clear h hA hl;unfold nG;go_enter Tryz.func302,Tryz.ntmps302
 go_wp2_with(first
  |(go_at_call 103;(with_reducible refine cN.out.mono ?_);rintro e w1 ⟨rfl,rfl⟩)
  |(go_at_call 423;go_in)
  |(go_at_call 60;(with_reducible refine(cC.out _ hA2.out).mono ?_);rintro e w3 ⟨a',cap',rfl,fB,hO3⟩;obtain⟨⟨c0,c1,c2,c3⟩,f0,f1,f2,f3⟩:=Cj (hr.out _ (hA2.out.trans hO3));replace fB:=af fB;replace hO3:=af (hA2.out.trans hO3)))
 go_ret
 refine⟨rfl,hend.out _ _ _ _ _ hO3.out ⟨fB.out.own,fun q hq=>Nat.le_trans hA2.out.size (fB.out.fresh q hq),fB.out.good⟩ (heap_setCell_same _ _ _ _ _ _ (heap_setCell_same _ _ _ _ _ _ (heap_setCell_same _ _ _ _ _ _ (hr.out _ hO3.out)))) ?_⟩
 repeat(first|refine ai.setCell ?_ (.inl (by simp)) _|with_reducible exact ai.refl _ _)
theorem MP(d:DW)(x:bS)(a:Option Addr)(l:List bJ)(c:Nat)(w:World)(h:fF w d x)(hon:x.on=true)(hA:bB w a l)(hl:l.length<=32):
  Calls Tryz.prog 302 #[.pointer (some ⟨d.blk,0,none⟩),.iface 433 (.agg #[.slice a l.length c])] w (nG d ⟨x.name,true,l⟩ w):=by
 have mb:=EU;have ab:=abY;have at_:=ab0;obtain⟨⟨k0,k1,k2,k3⟩,_⟩:=Cj h.1;rw[hon]at k1;have hlt:d.blk<w.heap.size:=aj h.1;have cN:=af (oG d.blk x.name w k0 h.2.2.1);have cC:=af fun W (ho:ai [] w W)=>oF a l c W (hA.nil' ho) (by omega)
 unfold oD at cC;have hr:=af fun W (ho:ai [] w W)=>ho.heap h.1 (by simp)
 have hend:=af fun w3 w4 a cap li=>KM (x':=⟨x.name,true,l⟩) (w3:=w3) (w4:=w4) (a:=a) (cap:=cap) (li:=li) h rfl hl
 have hA2:=af (show ai [] w ((w.alloc (.cells #[.slice a l.length c] 433)).alloc (.cells #[.slice a l.length c] 433))from((ai.refl _ _).alloc _).alloc _);change Hid _ at hon;clear h hA hl;unfold nG;go_enter Tryz.func302,Tryz.ntmps302
 go_wp2_with(first
  |(go_at_call 103;(with_reducible refine cN.out.mono ?_);rintro e w1 ⟨rfl,rfl⟩)
  |(go_at_call 421;go_in)
  |(go_at_call 60;(with_reducible refine(cC.out _ hA2.out).mono ?_);rintro e w3 ⟨a',cap',rfl,fB,hO3⟩;obtain⟨⟨c0,c1,c2,c3⟩,f0,f1,f2,f3⟩:=Cj (hr.out _ (hA2.out.trans hO3));replace fB:=af fB;replace hO3:=af (hA2.out.trans hO3)))
 go_ret
 have hr3:=hr.out _ hO3.out;rw[hon.out]at hr3;refine⟨rfl,hend.out _ _ _ _ _ hO3.out ⟨fB.out.own,fun q hq=>Nat.le_trans hA2.out.size (fB.out.fresh q hq),fB.out.good⟩ (heap_setCell_same _ _ _ _ _ _ hr3) ?_⟩
 repeat(first|refine ai.setCell ?_ (.inl (by simp)) _|with_reducible exact ai.refl _ _)
theorem IL(d:DW)(x:bS)(w:World)(h:fF w d x)(hne:d.a.map (·.block)≠some d.blk):
  Calls Tryz.prog 302 #[.pointer (some ⟨d.blk,0,none⟩),.iface 425 (.agg #[])] w fun e w'=>(∃c,e=.returned (.int .i64 c))/\fF w' d ⟨x.name,false,x.items⟩/\ai [d.blk] w w':=by
 have mb:=CB;have ab:=abZ;have at_:=ab1;have ad:=ab2;obtain⟨⟨k0,k1,k2,k3⟩,_⟩:=Cj h.1;have hg1:=(Cj h.1).2.2.1;have hlt:d.blk<w.heap.size:=aj h.1;have cN:=af (oG d.blk x.name w k0 h.2.2.1);have hend: ∀w4,w4.heap[d.blk]?=some (.cells #[.string x.name,.bool false,.slice d.a x.items.length d.cap,.int .i64 d.lives] 214 (0,0))->ai [d.blk] w w4->fF w4 d ⟨x.name,false,x.items⟩:=fun w4 h4 ho=>
  ⟨h4,h.2.1.own' ho (fun b hb=>by simp;rintro rfl;exact hne hb),h.2.2⟩
 have hr:=af fun W (ho:ai [] w W)=>ho.heap h.1 (by simp)
 change Hid _ at hend;cases hon:x.on
 ·have JY:=af hon
  rw[hon]at k1;clear h hne hon;go_enter Tryz.func302,Tryz.ntmps302
  go_wp2_with(first
   |(go_at_call 103;(with_reducible refine cN.out.mono ?_);rintro e w1 ⟨rfl,rfl⟩)
   |(go_at_call 420;go_in))
  go_ret
  have hA:=(ai.refl [] w).alloc (.cells #[] 425);have hrw:=hr.out _ hA;rw[JY.out]at hrw;exact⟨⟨_,rfl⟩,hend.out _ hrw hA.nil,hA.nil⟩
 ·have JY:=af hon
  rw[hon]at k1;clear h hne hon;go_enter Tryz.func302,Tryz.ntmps302
  go_wp2_with(first
   |(go_at_call 103;(with_reducible refine cN.out.mono ?_);rintro e w1 ⟨rfl,rfl⟩)
   |(go_at_call 420;go_in))
  go_ret
  have hrw:=hr.out _ (ai.refl _ _);rw[JY.out]at hrw;have iE:ai [d.blk] w (w.setCell ⟨d.blk,1,none⟩ (.bool false)):=(ai.refl _ _).setCell (.inl (by simp)) _;have aL:ai [] (w.setCell ⟨d.blk,1,none⟩ (.bool false)) (((w.setCell ⟨d.blk,1,none⟩ (.bool false)).alloc (.cells #[] 425)).alloc (.cells #[] 425)):=((ai.refl _ _).alloc _).alloc _;have hO:=iE.trans aL.nil;exact⟨⟨_,rfl⟩,hend.out _ (aL.heap (heap_setCell_same _ _ _ _ _ _ hrw) (by simp)) hO,hO⟩
theorem MQ(d:DW)(x:bS)(a:Option Addr)(l:List bJ)(c:Nat)(w:World)(h:fF w d x)(hA:bB w a l)(hl:l.length<=32):
  Calls Tryz.prog 310 #[.pointer (some ⟨d.blk,0,none⟩),.slice a l.length c] w (nG d ⟨x.name,true,l⟩ w):=by
 have cB:=af (MO d x a l c w h hA hl);clear h hA hl;unfold nG at*;go_enter Tryz.func310,Tryz.ntmps310
 go_wp2_with(go_at_call 302;(with_reducible refine cB.out.mono ?_);rintro e w1 ⟨rfl,hx⟩;replace hx:=af hx)
 go_ret
 exact⟨rfl,hx.out⟩
theorem MR(d:DW)(x:bS)(a:Option Addr)(l:List bJ)(c:Nat)(w:World)(h:fF w d x)(hon:x.on=true)(hA:bB w a l)(hl:l.length<=32):
  Calls Tryz.prog 274 #[.pointer (some ⟨d.blk,0,none⟩),.slice a l.length c] w (nG d ⟨x.name,true,l⟩ w):=by
 have cB:=af (MP d x a l c w h hon hA hl);clear h hA hl hon;unfold nG at*;go_enter Tryz.func274,Tryz.ntmps274
 go_wp2_with(go_at_call 302;(with_reducible refine cB.out.mono ?_);rintro e w1 ⟨rfl,hx⟩;replace hx:=af hx)
 go_ret
 exact⟨rfl,hx.out⟩
theorem MS(d:DW)(x:bS)(w:World)(h:fF w d x)(hne:d.a.map (·.block)≠some d.blk):
  Calls Tryz.prog 266 #[.pointer (some ⟨d.blk,0,none⟩)] w fun e w'=>(∃c,e=.returned (.int .i64 c))/\fF w' d ⟨x.name,false,x.items⟩/\ai [d.blk] w w':=by
 have cB:=af (IL d x w h hne);clear h hne;go_enter Tryz.func266,Tryz.ntmps266
 go_wp2_with(go_at_call 302;(with_reducible refine cB.out.mono ?_);rintro e w1 ⟨⟨c,rfl⟩,hx⟩;replace hx:=af hx)
 go_ret
 exact⟨⟨_,rfl⟩,hx.out⟩
theorem Rc(nm:ByteArray)(w:World)(hn:nm.toList.isEmpty=false):
  Calls Tryz.prog 308 #[.string nm] w fun e w'=> ∃b,e=.returned (.tuple #[.pointer (some ⟨b,0,none⟩),.int .i64 0])/\fF w' ⟨b,none,0,0⟩ ⟨nm,false,[]⟩/\ai [] w w'/\w.heap.size<=b:=by
 have hr:(w.alloc (.cells #[.string nm,.bool false,.slice none 0 0,.int .i64 0] 214)).heap[w.heap.size]?=some (.cells #[.string nm,.bool false,.slice none 0 0,.int .i64 0] 214 (0,0)):=heap_alloc_new _ _;change Hid _ at hr;go_enter Tryz.func308,Tryz.ntmps308
 go_wp2_with fail
 go_ret2
 exact⟨_,rfl,⟨hr.out,aM.nil _ _,hn,by simp⟩,(ai.refl _ _).alloc _,Nat.le_refl _⟩
end Go.Proofs.YtedcakchekaemaaGreatDoor
namespace Go.Proofs.YtedcakchekaemaaGreatDoor
open Go.RowKit Go.Shelf Go.Lib
theorem dM{b:Nat}{T:TypeId}: ∀(vs:List Value) (o:Nat) (w:World) (cur:Array Value),w.heap[b]?=some (.cells cur T (0,0))->o+vs.length<=cur.size->
  ∃cur',(w.setCells b o vs).heap[b]?=some (.cells cur' T (0,0))/\cur'.size=cur.size/\cur'.toList=cur.toList.take o++vs++cur.toList.drop (o+vs.length)
 | [],o,w,cur,h,_=>⟨cur,h,rfl,by simp⟩
 |v::r,o,w,cur,h,hl=>by
  simp only[List.length_cons]at hl;obtain⟨cur',h1,h2,h3⟩:=dM r (o+1) (w.setCell ⟨b,o,none⟩ v) _ (heap_setCell_same _ _ o _ _ v h) (by simpa using by omega);refine⟨cur',by rw[World.setCells];exact h1,by simpa using h2,?_⟩;rw[h3];have ho:o<cur.toList.length:=by simp;omega
  have e1:(cur.setIfInBounds o v).toList=cur.toList.set o v:=by simp
  rw[e1,List.take_set,List.drop_set_of_lt (by omega),List.take_succ_eq_append_getElem ho,List.set_append_right _ _ (by simp;omega)];simp only[List.length_take,List.length_cons];have e2:o-min o cur.toList.length=0:=by omega
  rw[e2];have e3:o+1+r.length=o+(r.length+1):=by omega
  rw[e3];simp
theorem dN{S:List Nat}{b:Nat}(hb:b∈S): ∀(vs:List Value) (o:Nat) {w w':World},ai S w w'->ai S w (w'.setCells b o vs)
 | [],_,_,_,h=>h
 |v::r,o,w,w',h=>by
  rw[World.setCells];exact dN hb r (o+1) (h.setCell (.inl hb) v)
theorem Kw:(Tryz.prog.info? 164).map (fun i=>(i.zero,i.size,i.bytes))=some (some (.pointer none),1,8):=by kernel_rfl
theorem Qi:jG Tryz.prog 157 164 iO 1 8 where
 ut:=Tryz.underlying157
 info:=by obtain⟨i,h1,h2,h3,h4⟩:=info_parts Kw;exact⟨i,_,h1,h2,h3,h4,rfl⟩
 pos:=by omega
 len:=vC
 one x u hu:=by simp[iO]at hu;subst hu;rfl
def Ky(w:World):World:={w with heap:=#[]}
theorem Bd(w:World):ai [] (Ky w) w:=⟨rfl,rfl,rfl,Nat.zero_le _,fun k hk=>absurd hk (by simp[Ky])⟩
def Ck(dv:Value)(l:List DW)(w:World)(e:Ending)(w':World):Prop:=
 ∃v',e=.returned v'/\Sl 164 iO 1 0 w' v' l/\ai dv.ownBlock.toList w w'/\(∀g,v'.ownBlock=some g->dv.ownBlock=some g\/w.heap.size<=g)
theorem VB(dv:Value)(ds:List DW)(d:DW)(vb:Nat)(w:World)(h:Sl 164 iO 1 0 w dv ds)(hv:w.heap[vb]?=some (.cells #[.pointer (some ⟨d.blk,0,none⟩)] 164 (0,0)))(hl:ds.length<=3):
  Calls Tryz.prog 309 #[dv,.int .i64 ds.length,.slice (some ⟨vb,0,none⟩) 1 1] w (Ck dv (ds++[d]) w):=by
 have hR:aG iO w (.slice (some ⟨vb,0,none⟩) 1 1) [d]:=.inr ⟨vb,0,1,rfl,fun j u hu=>by
  rw[Nat.zero_add,cell_of_row w vb j _ _ _ hv];simpa[aI,iO]using hu⟩
 obtain⟨v1,hsl,_,_⟩:=h.drop Qi (Nat.le_refl ds.length);obtain⟨sa,sc,rfl⟩:=h.sl;have hB:=af (Bd w);have hS:Sl 164 iO 1 (Ky w).heap.size w (.slice sa ds.length sc) ds:=h;change Hid _ at hS hR;have hl1:=af (show(ds.length+[d].length)*8<=140737488355328 by simp;omega);have hl2:=af (show ds.length+[d].length<=maxLen by unfold maxLen;simp;omega);clear h hv;go_enter Tryz.func309,Tryz.ntmps309
 go_wp2_with(at_builtin;refine aT rfl (.tmp 23) (.tmp 24) rfl Qi hB.out rfl hS.out rfl hR.out hl1.out hl2.out ?_;intro v5 w5 hS5 _ _ hg5 iD;replace hS5:=af hS5;replace hg5:=af hg5;replace iD:=af iD)
 go_ret
 exact⟨v5,rfl,hS5.out,iD.out,hg5.out⟩
theorem pV(l:List DW):aI iO l=l.map fun d=>.pointer (some ⟨d.blk,0,none⟩):=by
 unfold aI;induction l with
 |nil=>rfl
 |cons x r ih=>rw[List.flatMap_cons,ih];rfl
theorem Mf(g n c i vb:Nat)(cs:List Value)(u:Value)(w:World)(hi:i<n)(hroom:n+1<=c)(Va:n<=3)(hc63:c<=9223372036854775807)(hvb:vb≠g)
  (cur:Array Value)(hg:w.heap[g]?=some (.cells cur 164 (0,0)))(hcz:cur.size=c)(hcl:cs.length=n)(hct:cur.toList.take n=cs)(h1c: ∀v∈cs,v.oneCell'=true)(K7:u.oneCell'=true)
  (hv:w.heap[vb]?=some (.cells #[u] 164 (0,0))):
  Calls Tryz.prog 309 #[.slice (some ⟨g,0,none⟩) n c,.int .i64 i,.slice (some ⟨vb,0,none⟩) 1 1] w fun e w'=>
   e=.returned (.slice (some ⟨g,0,none⟩) (n+1) c)/\w'=(w.drew.setCells g (i+1) (cs.drop i)).setCells g i [u]:=by
 have hcell: ∀j v,cs[j]?=some v->w.cell? ⟨g,j,none⟩=some v:=fun j v hj=>by
  rw[cell_of_row w g j _ _ _ hg];rw[<-hct,List.getElem?_take]at hj;split at hj
  ·simpa using hj
  ·cases hj
 have hsp: ∀j,j<n+1->(w.cell? ⟨g,j,none⟩).isSome=true:=fun j hj=>by
  rw[cell_of_row w g j _ _ _ hg,Array.getElem?_eq_getElem (by omega)];rfl
 have hfz: ∀j,w.frozen? ⟨g,j,none⟩=false:=fun j=>frozen_of_row w g j _ _ hg
 have Y6: ∀j v,[u][j]?=some v->w.cell? ⟨vb,j,none⟩=some v:=fun j v hj=>by
  rw[cell_of_row w vb j _ _ _ hv];simpa using hj
 have hsz:(Tryz.prog.info? 164).map (·.size)=some 1:=by kernel_rfl
 have hsa:w.shape? vb=some (164,1):=by simp[World.shape?,hv]
 have hsb:w.shape? g=some (164,cur.size):=by simp[World.shape?,hg]
 have hz3: ∀w,(Go.sizeOf 164).run Tryz.prog w=.ok 1 w:=fun w=>by kernel_rfl
 have hov: ∀lb cb,(callFunc 330 #[.slice (some ⟨vb,0,none⟩) 1 1,.slice (some ⟨g,i+1,none⟩) lb cb]).run Tryz.prog w=.ok (.value (.bool false)) w:=fun lb cb=>by
  rw[run_callFunc_extern Tryz.func330 (by kernel_rfl) (by kernel_rfl) (by kernel_rfl) (e:=Extern.SlicesOverlaps.overlaps #[157,157] #[4]) (by kernel_rfl),
   Lib.run_overlaps_apart w 157 4 164 Tryz.underlying157 1 hz3 ⟨vb,0,none⟩ ⟨g,i+1,none⟩ 1 1 lb cb hvb 164 164 1 cur.size hsa hsb (by omega) (frozen_of_row w vb 0 _ _ hv) (frozen_of_row w vb 1 _ _ hv)]
  rfl
 have hdl:(cs.drop i).length=n-i:=by rw[List.length_drop,hcl]
 have hz2: ¬((i:Int)=(n:Int)):=by omega
 have hw1:IntKind.i64.wrap ((i:Int)+1)=(i:Int)+1:=by rw[IntKind.wrap_i64];omega
 have hb1:(0:Int)<=(i:Int)+1:=by omega
 have htn:((i:Int)+1).toNat=i+1:=by omega
 have hb2: ¬(c=i+1):=by omega
 have hb3:(i:Int)<=(n:Int)+1:=by omega
 have hb4: ¬(c=i):=by omega
 have hin:i<=n:=by omega
 have hcp1: ∀ty dc sc,(Builtin.copy_ #[157,157] ty #[.slice (some ⟨g,i+1,none⟩) (n-i) dc,.slice (some ⟨g,i,none⟩) (n+1-i) sc]).run Tryz.prog w.drew=.ok (goInt (cs.drop i).length) (w.drew.setCells g (i+1) (cs.drop i)):=fun ty dc sc=>
  run_copy_cells w.drew _ _ ty 164 g (i+1) (n-i) dc ⟨g,i,none⟩ (n+1-i) sc (cs.drop i) Tryz.underlying157 hsz (by rw[hdl];simp only[Nat.min_def];split<;>omega)
   (fun j v hj=>by rw[Addr.add_lit];exact hcell (i+j) v (by rwa[List.getElem?_drop]at hj))
   (fun j hj=>hsp _ (by omega)) (fun j hj=>hfz _) (fun v hv=>h1c v (List.mem_of_mem_drop hv))
 obtain⟨W1,hW1⟩: ∃W1,W1=w.drew.setCells g (i+1) (cs.drop i):=⟨_,rfl⟩;have hsp1: ∀k,k<n+1->(W1.cell? ⟨g,k,none⟩).isSome=true:=fun k hk=>by
  rw[hW1];exact isSome_setCells g (cs.drop i) (i+1) w.drew (fun j hj=>hsp _ (by rw[hdl]at hj;omega)) k (hsp k hk)
 have hcp2: ∀(W:World),(∀x,W.cell? x=W1.cell? x)->(∀x,W.frozen? x=W1.frozen? x)-> ∀ty dc,(Builtin.copy_ #[157,157] ty #[.slice (some ⟨g,i,none⟩) (n+1-i) dc,.slice (some ⟨vb,0,none⟩) 1 1]).run Tryz.prog W=.ok (goInt [u].length) (W.setCells g i [u]):=fun W hWc hWf ty dc=>
  run_copy_cells W _ _ ty 164 g i (n+1-i) dc ⟨vb,0,none⟩ 1 1 [u] Tryz.underlying157 hsz (by simp only[List.length_singleton,Nat.min_def];split<;>omega)
   (fun j v hj=>by
    rw[Addr.add_lit,hWc,hW1,World.cell?_setCells_out g _ _ _ _ (fun h _=>absurd h hvb),Nat.zero_add];exact Y6 j v hj)
   (fun j hj=>by rw[hWc];exact hsp1 _ (by simp at hj;omega)) (fun j hj=>by rw[hWf,hW1,World.frozen?_setCells];exact hfz _) (by simpa using K7)
 rw[<-hW1]at hcp1;clear hcell hsp hfz Y6 hsa hsb hz3 hsz hdl hsp1 hg hv hct hcl h1c K7;go_enter Tryz.func309,Tryz.ntmps309
 go_wp2_with(simp only[hov])
 go_region_law(refine step_copy_runI rfl _ _ 157 157 rfl _ _ (by simp[Act.eval,Act.put]) (by simp[Act.eval,Act.put]) (hcp1 _ _ _) ?_)
 go_wp2_with(at_builtin;refine wpList_copy_runI _ rfl _ _ 157 157 rfl _ _ rfl rfl (hcp2 _ (fun _=>rfl) (fun _=>rfl) _ _) ?_)
 go_ret
 first|exact⟨rfl,rfl⟩|exact⟨rfl,by rw[hW1]⟩
theorem Qj(g n c i vb:Nat)(cs:List Value)(u:Value)(w:World)(hi:i<n)(hnc:n<=c)(hroom:c<n+1)(Va:n<=3)
  (cur:Array Value)(hg:w.heap[g]?=some (.cells cur 164 (0,0)))(hcl:cs.length=n)(hct:cur.toList.take n=cs)(h1c: ∀v∈cs,v.oneCell'=true)(K7:u.oneCell'=true)
  (hv:w.heap[vb]?=some (.cells #[u] 164 (0,0))):
  Calls Tryz.prog 309 #[.slice (some ⟨g,0,none⟩) n c,.int .i64 i,.slice (some ⟨vb,0,none⟩) 1 1] w fun e w'=> ∃(G:Nat) (ROW:Array Value),n+1<=G/\G<=maxLen/\ROW.size=G/\ROW.toList.take i=cs.take i/\
   e=.returned (.slice (some ⟨w.heap.size,0,none⟩) (n+1) G)/\w'=(((w.alloc (.cells ROW 164)).drew.setCells w.heap.size i [u]).drew).setCells w.heap.size (i+1) (cs.drop i):=by
 have hcs: ∀j v,cs[j]?=some v->w.cell? ⟨g,j,none⟩=some v:=fun j v hj=>by
  rw[cell_of_row w g j _ _ _ hg];rw[<-hct,List.getElem?_take]at hj;split at hj
  ·simpa using hj
  ·cases hj
 have hvs: ∀j v,[u][j]?=some v->w.cell? ⟨vb,j,none⟩=some v:=fun j v hj=>by
  rw[cell_of_row w vb j _ _ _ hv];simpa using hj
 obtain⟨i0,hi0,hz0,hzs,hzb⟩:=info_parts Kw;have hz2: ¬((i:Int)=(n:Int)):=by omega
 have hz3:(c:Int)<(n:Int)+1:=by omega
 have hsz:(Tryz.prog.info? 164).map (·.size)=some 1:=by rw[hi0];simp[hzs]
 have hbw:g<w.heap.size:=aj hg;have hvw:vb<w.heap.size:=aj hv;have hkk:(n:Int)+1-(i:Int)=((n+1-i:Nat):Int):=by omega
 have hik:i+(n+1-i)=n+1:=by omega
 have hold:(Builtin.firstCells i0.size i (.slice (some ⟨g,0,none⟩) i c)).run Tryz.prog w.drew=.ok (cs.take i).toArray w.drew:=by
  rw[hzs];exact run_firstCells_some w.drew 1 i ⟨g,0,none⟩ i c (cs.take i) (by rw[List.length_take];omega) (fun j v hj=>by
   rw[Addr.add_lit,Nat.zero_add];rw[List.getElem?_take]at hj;split at hj
   ·exact hcs j v hj
   ·cases hj)
 have hrz: ∀ty,(Builtin.append_ #[157,3] ty #[.slice (some ⟨g,0,none⟩) i c,.int .i64 ((n:Int)+1-(i:Int))]).run Tryz.prog w=
   .ok (.slice (some ⟨w.heap.size,0,none⟩) (n+1) (grownCap w (n+1) c 164)) (w.drew.alloc (.cells ((cs.take i).toArray++Builtin.zeroCells (Value.pointer none).cells (n+1-i)++Builtin.zeroCells (Value.pointer none).cells (grownCap w (n+1) c 164-(n+1))) 164)):=fun ty=>by
  have h:=Lib.run_append_grow_zeros w 157 3 ty 164 i0 _ .i64 .i64 Tryz.underlying157 Tryz.underlying3 hi0 hz0 (some ⟨g,0,none⟩) i c (cs.take i) hold (n+1-i) (by omega) (by omega) (by omega) (by omega) (by rw[hzb];omega) (by rw[hzb,hik];exact growslice_fits hroom (by omega));rw[hik]at h;rw[hkk];exact h
 obtain⟨G,hG⟩: ∃G,G=grownCap w (n+1) c 164:=⟨_,rfl⟩;obtain⟨ROW,hROW⟩: ∃ROW:Array Value,ROW=(cs.take i).toArray++Builtin.zeroCells (Value.pointer none).cells (n+1-i)++Builtin.zeroCells (Value.pointer none).cells (G-(n+1)):=⟨_,rfl⟩;rw[<-hG,<-hROW]at hrz;have hGn:n+1<=G:=by rw[hG];exact grownCap_ge w _ _ _
 have Uz:G<=maxLen:=by rw[hG];exact grownCap_le_maxLen w (n+1) c 164 (by unfold maxLen;omega)
 have hRs:ROW.size=G:=by
  rw[hROW];simp[Builtin.zeroCells,Value.cells];omega
 have Gg:ROW.toList.take i=cs.take i:=by
  rw[hROW];simp only[Array.toList_append,List.append_assoc];have e:(cs.take i).length=i:=by rw[List.length_take];omega
  rw[List.take_append_of_le_length (Nat.le_of_eq e.symm)];show List.take i (cs.take i)=cs.take i;rw[List.take_take,Nat.min_self]
 obtain⟨W1,hW1⟩: ∃W1,W1=w.drew.alloc (.cells ROW 164):=⟨_,rfl⟩;rw[<-hW1]at hrz;have hN: ∀j,j<n+1->(W1.cell? ⟨w.heap.size,j,none⟩).isSome=true:=fun j hj=>by
  rw[hW1,World.cell?_alloc_at (w:=w.drew) ROW _ w.heap.size j rfl,Array.getElem?_eq_getElem (by omega)];rfl
 have hNf: ∀j,W1.frozen? ⟨w.heap.size,j,none⟩=false:=fun j=>by rw[hW1];exact World.frozen?_alloc_at (w:=w.drew) ROW _ w.heap.size j rfl
 have hOb: ∀j v,w.cell? ⟨g,j,none⟩=some v->W1.cell? ⟨g,j,none⟩=some v:=fun j v h=>by rw[hW1,World.cell?_alloc_past (w:=w.drew) _ g j hbw];exact h
 have hOv: ∀j v,w.cell? ⟨vb,j,none⟩=some v->W1.cell? ⟨vb,j,none⟩=some v:=fun j v h=>by rw[hW1,World.cell?_alloc_past (w:=w.drew) _ vb j hvw];exact h
 have hcpA: ∀(W:World),(∀x,W.cell? x=W1.cell? x)->(∀x,W.frozen? x=W1.frozen? x)-> ∀ty dc,(Builtin.copy_ #[157,157] ty #[.slice (some ⟨w.heap.size,i,none⟩) (n+1-i) dc,.slice (some ⟨vb,0,none⟩) 1 1]).run Tryz.prog W=.ok (goInt [u].length) (W.setCells w.heap.size i [u]):=fun W hWc hWf ty dc=>
  run_copy_cells W _ _ ty 164 w.heap.size i (n+1-i) dc ⟨vb,0,none⟩ 1 1 [u] Tryz.underlying157 hsz (by simp only[List.length_singleton,Nat.min_def];split<;>omega)
   (fun j v hj=>by rw[Addr.add_lit,hWc,Nat.zero_add];exact hOv _ v (hvs j v hj))
   (fun j hj=>by rw[hWc];exact hN _ (by simp at hj;omega)) (fun j hj=>by rw[hWf];exact hNf _) (by simpa using K7)
 have hG63:G<=9223372036854775807:=by unfold maxLen at Uz;omega
 have hGi: ¬(G=i):=by omega
 have hGim: ¬(G=i+1):=by omega
 have hci: ¬(c=i):=by omega
 have hbN:g≠w.heap.size:=by omega
 have hdl:(cs.drop i).length=n-i:=by rw[List.length_drop,hcl]
 have hcpB: ∀(W:World),(∀x,W.cell? x=(W1.setCells w.heap.size i [u]).cell? x)->(∀x,W.frozen? x=(W1.setCells w.heap.size i [u]).frozen? x)-> ∀ty dc sc,(Builtin.copy_ #[157,157] ty #[.slice (some ⟨w.heap.size,i+1,none⟩) (n-i) dc,.slice (some ⟨g,i,none⟩) (n-i) sc]).run Tryz.prog W=.ok (goInt (cs.drop i).length) (W.setCells w.heap.size (i+1) (cs.drop i)):=fun W hWc hWf ty dc sc=>
  run_copy_cells W _ _ ty 164 w.heap.size (i+1) (n-i) dc ⟨g,i,none⟩ (n-i) sc (cs.drop i) Tryz.underlying157 hsz (by rw[hdl];simp only[Nat.min_def];split<;>omega)
   (fun j v hj=>by
    rw[Addr.add_lit,hWc,World.cell?_setCells_out _ _ _ _ _ (fun h _=>absurd h hbN)];exact hOb _ v (hcs (i+j) v (by rwa[List.getElem?_drop]at hj)))
   (fun j hj=>by rw[hWc];exact isSome_setCells w.heap.size [u] i W1 (fun t ht=>hN _ (by simp at ht;omega)) _ (hN _ (by omega)))
   (fun j hj=>by rw[hWf,World.frozen?_setCells];exact hNf _) (fun v hv=>h1c v (List.mem_of_mem_drop hv))
 have hfin:=af (And.intro hGn (And.intro Uz (And.intro hRs Gg)));subst hW1;have hE1: ∀x,((w.alloc (.cells ROW 164)).drew).cell? x=(w.drew.alloc (.cells ROW 164)).cell? x:=fun x=>rfl
 have hE2: ∀x,((w.alloc (.cells ROW 164)).drew).frozen? x=(w.drew.alloc (.cells ROW 164)).frozen? x:=fun x=>rfl
 have hF1: ∀x,(((w.alloc (.cells ROW 164)).drew.setCells w.heap.size i [u]).drew).cell? x=((w.drew.alloc (.cells ROW 164)).setCells w.heap.size i [u]).cell? x:=fun x=>rfl
 have hF2: ∀x,(((w.alloc (.cells ROW 164)).drew.setCells w.heap.size i [u]).drew).frozen? x=((w.drew.alloc (.cells ROW 164)).setCells w.heap.size i [u]).frozen? x:=fun x=>rfl
 have hw1:IntKind.i64.wrap ((i:Int)+1)=(i:Int)+1:=by rw[IntKind.wrap_i64];omega
 have hb1:(0:Int)<=(i:Int)+1:=by omega
 have hin:i<=n:=by omega
 have htn:((i:Int)+1).toNat=i+1:=by omega
 have hb3:(i:Int)<=(n:Int):=by omega
 clear hkk hik hold hROW hG hRs Gg hcs hvs hg hv hct hcl h1c K7 hN hNf hOb hOv hi0 hz0 hzs hzb Uz hGn hdl hsz;go_enter Tryz.func309,Tryz.ntmps309
 go_wp2_with(first
  |(at_builtin;refine Lib.wpList_append_run _ rfl _ _ _ _ rfl _ _ rfl rfl _ _ (hrz _) ?_)
  |(at_builtin;refine wpList_copy_runI _ rfl _ _ 157 157 rfl _ _ rfl rfl (hcpA _ hE1 hE2 _ _) ?_))
 go_region_law(refine step_copy_runI rfl _ _ 157 157 rfl (.slice (some ⟨w.heap.size,i+1,none⟩) (n-i) (G-(i+1))) (.slice (some ⟨g,i,none⟩) (n-i) (c-i)) (by simp[Act.eval,Act.put]) (by simp[Act.eval,Act.put]) (hcpB _ hF1 hF2 3 (G-(i+1)) (c-i)) ?_)
 go_wp2_with fail
 go_ret
 exact⟨G,ROW,hfin.out.1,hfin.out.2.1,hfin.out.2.2.1,hfin.out.2.2.2,rfl,rfl⟩
theorem H8{α:Type}(cur R:List α)(u:α)(i n:Nat)(hi:i<n)(hR:R.length=n)(hc:n+1<=cur.length)(ht:cur.take n=R):
  ((cur.take (i+1)++R.drop i++cur.drop (i+1+(R.drop i).length)).take i++[u]++(cur.take (i+1)++R.drop i++cur.drop (i+1+(R.drop i).length)).drop (i+[u].length)).take (n+1)=R.take i++[u]++R.drop i:=by
 have l1:(cur.take (i+1)).length=i+1:=by rw[List.length_take];omega
 have a:(cur.take (i+1)++R.drop i++cur.drop (i+1+(R.drop i).length)).take i=R.take i:=by
  rw[List.append_assoc,List.take_append_of_le_length (by omega),List.take_take,Nat.min_eq_left (by omega),<-ht,List.take_take,Nat.min_eq_left (by omega)]
 have b:(cur.take (i+1)++R.drop i++cur.drop (i+1+(R.drop i).length)).drop (i+[u].length)=R.drop i++cur.drop (i+1+(R.drop i).length):=by
  rw[List.append_assoc];exact List.drop_left' l1
 rw[a,b,<-List.append_assoc];refine List.take_left' ?_;simp only[List.length_append,List.length_take,List.length_drop,List.length_singleton];omega
theorem Mg{α:Type}(ROW R:List α)(u:α)(i n:Nat)(hi:i<n)(hR:R.length=n)(hc:n+1<=ROW.length)(ht:ROW.take i=R.take i):
  ((ROW.take i++[u]++ROW.drop (i+[u].length)).take (i+1)++R.drop i++(ROW.take i++[u]++ROW.drop (i+[u].length)).drop (i+1+(R.drop i).length)).take (n+1)=R.take i++[u]++R.drop i:=by
 have l1:(ROW.take i++[u]).length=i+1:=by rw[List.length_append,List.length_take,List.length_singleton];omega
 have a:(ROW.take i++[u]++ROW.drop (i+[u].length)).take (i+1)=R.take i++[u]:=by rw[List.take_left' l1,ht]
 rw[a];refine List.take_left' ?_;simp only[List.length_append,List.length_take,List.length_drop,List.length_singleton];omega
theorem VD(dv:Value)(ds:List DW)(d:DW)(vb i:Nat)(w:World)(h:Sl 164 iO 1 0 w dv ds)(hv:w.heap[vb]?=some (.cells #[.pointer (some ⟨d.blk,0,none⟩)] 164 (0,0)))(hne:dv.ownBlock≠some vb)(hl:ds.length<=3)(hi:i<=ds.length):
  Calls Tryz.prog 309 #[dv,.int .i64 i,.slice (some ⟨vb,0,none⟩) 1 1] w (Ck dv (ds.take i++[d]++ds.drop i) w):=by
 by_cases hie:i=ds.length
 ·subst hie
  rw[List.take_length,List.drop_length,List.append_nil];exact VB dv ds d vb w h hv hl
 ·rcases h.form with⟨_,rfl⟩|⟨g,cap,rfl,_,cur,hg,h1,h2,h3,h4⟩
  ·exact absurd (Nat.le_zero.1 hi) hie
  ·have hlt:i<ds.length:=by omega
   rw[Nat.mul_one]at h3 h4;have hcl:(aI iO ds).length=ds.length:=by rw[pV,List.length_map]
   have h1c: ∀v∈aI iO ds,v.oneCell'=true:=su Qi.one ds;have hgn:vb≠g:=fun e=>hne (by rw[e];rfl)
   have hc63:cap<=9223372036854775807:=by unfold maxLen at h2;omega
   have hlg:g<w.heap.size:=aj hg;have hnew:aI iO (ds.take i++[d]++ds.drop i)=(aI iO ds).take i++[.pointer (some ⟨d.blk,0,none⟩)]++(aI iO ds).drop i:=by
    simp only[pV,List.map_append,List.map_take,List.map_drop,List.map_cons,List.map_nil]
   have hnl:(ds.take i++[d]++ds.drop i).length=ds.length+1:=by simp;omega
   by_cases hroom:ds.length+1<=cap
   ·refine(Mf g ds.length cap i vb (aI iO ds) (.pointer (some ⟨d.blk,0,none⟩)) w hlt hroom hl hc63 hgn cur hg h3 hcl h4 h1c rfl hv).mono ?_
    rintro e w' ⟨rfl,rfl⟩;obtain⟨c1,k1,k2,k3⟩:=dM ((aI iO ds).drop i) (i+1) w.drew cur hg (by rw[List.length_drop,hcl];omega);obtain⟨c2,m1,m2,m3⟩:=dM [.pointer (some ⟨d.blk,0,none⟩)] i _ c1 k1 (by simp;omega);have hO:ai [g] w ((w.drew.setCells g (i+1) ((aI iO ds).drop i)).setCells g i [.pointer (some ⟨d.blk,0,none⟩)]):=dN (by simp) _ _ (dN (by simp) _ _ ((ai.refl _ _).drew));refine⟨_,rfl,⟨by rw[hnew,hnl];simp only[List.length_append,List.length_take,List.length_drop,List.length_singleton,hcl];omega,.inr ⟨g,cap,c2,by rw[hnl],Nat.zero_le _,m1,by rw[hnl];exact hroom,h2,by rw[m2,k2,h3];omega,?_⟩⟩,hO,fun q hq=>.inl hq⟩;rw[hnl,hnew,m3,k3,Nat.mul_one];exact H8 cur.toList (aI iO ds) _ i ds.length hlt hcl (by simp[h3];omega) h4
   ·refine(Qj g ds.length cap i vb (aI iO ds) (.pointer (some ⟨d.blk,0,none⟩)) w hlt h1 (by omega) hl cur hg hcl h4 h1c rfl hv).mono ?_
    rintro e w' ⟨G,ROW,hG,Uz,hRs,Gg,rfl,rfl⟩;obtain⟨c1,k1,k2,k3⟩:=dM [.pointer (some ⟨d.blk,0,none⟩)] i ((w.alloc (.cells ROW 164)).drew) ROW (heap_alloc_new w _) (by simp;omega);obtain⟨c2,m1,m2,m3⟩:=dM ((aI iO ds).drop i) (i+1) (((w.alloc (.cells ROW 164)).drew.setCells w.heap.size i [.pointer (some ⟨d.blk,0,none⟩)]).drew) c1 k1 (by rw[List.length_drop,hcl];omega);have iE:ai [w.heap.size] (w.alloc (.cells ROW 164)) ((((w.alloc (.cells ROW 164)).drew.setCells w.heap.size i [.pointer (some ⟨d.blk,0,none⟩)]).drew).setCells w.heap.size (i+1) ((aI iO ds).drop i)):=
     dN (by simp) _ _ ((dN (by simp) _ _ ((ai.refl _ _).drew)).drew)
    have hO:ai (Value.slice (some ⟨g,0,none⟩) ds.length cap).ownBlock.toList w ((((w.alloc (.cells ROW 164)).drew.setCells w.heap.size i [.pointer (some ⟨d.blk,0,none⟩)]).drew).setCells w.heap.size (i+1) ((aI iO ds).drop i)):=
     ((ai.refl _ _).alloc _).trans' iE (fun x hx=>.inr (by simp at hx;omega))
    refine⟨_,rfl,⟨by rw[hnew,hnl];simp only[List.length_append,List.length_take,List.length_drop,List.length_singleton,hcl];omega,.inr ⟨w.heap.size,G,c2,by rw[hnl],Nat.zero_le _,m1,by rw[hnl];exact hG,Uz,by rw[m2,k2,hRs,Nat.mul_one],?_⟩⟩,hO,fun q hq=>.inr (by simp[Value.ownBlock]at hq;omega)⟩;rw[hnl,hnew,m3,k3,Nat.mul_one];exact Mg ROW.toList (aI iO ds) _ i ds.length hlt hcl (by simp[hRs];omega) Gg
end Go.Proofs.YtedcakchekaemaaGreatDoor
