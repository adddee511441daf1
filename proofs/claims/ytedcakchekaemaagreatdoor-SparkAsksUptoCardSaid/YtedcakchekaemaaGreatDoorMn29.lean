import Derived.Test.YtedcakchekaemaaGreatDoorMn27
set_option maxRecDepth 100000
set_option maxHeartbeats 16000000
set_option linter.all false
namespace Go.Proofs.YtedcakchekaemaaGreatDoor
open Go.RowKit
variable [Kd]
theorem Pz(n:Nat)(a:Addr)(w:World):(method (n+1) 564 (.pointer (some a)) "crier/metric.take").run Tryz.prog w=.ok (443,.pointer (some a)) w:=by kernel_rfl
theorem PD(n:Nat)(a:Addr)(w:World):(method (n+1) 564 (.pointer (some a)) "crier/metric.done").run Tryz.prog w=.ok (442,.pointer (some a)) w:=by kernel_rfl
def D5(ok:Bool)(W0:World)(b:Nat)(e:Ending)(w':World):Prop:=
 match ok with
 |true=>e=.returned (.int .i64 0)/\ ∃p rv L,yX W0 w' b p rv L
 |false=>(∃ec:Int,ec≠0/\e=.returned (.int .i64 ec))/\ai [] W0 w'
theorem Bp{ok:Bool}{W0 w':World}{b:Nat}{ec:Int}(h:ok=false)(ay:ec≠0)(ho:ai [] W0 w'):D5 ok W0 b (.returned (.int .i64 ec)) w':=by subst h;exact⟨⟨ec,ay,rfl⟩,ho⟩
def mO(l:List bG):List bG:=l.filter fun f=> !(f.num==1||f.num==2)
theorem D6{l:List bG}{k:Nat}(hk:k<l.length)(hp:oV l[k]=true):gI (mO (l.take k)) l[k]=some (mO (l.take (k+1))):=by
 unfold gI;rw[if_pos hp]
 congr 1
 unfold mO;rw[List.take_succ_eq_append_getElem hk,List.filter_append];by_cases h:l[k].num=1\/l[k].num=2
 ·rw[if_pos h]
  rcases h with h|h<;>simp[h]
 ·rw[if_neg h]
  simp only[not_or]at h;simp[h.1,h.2]
theorem GN(W0 w:World)(b:Nat)(p:GI)(s:ByteArray)(deep:Int)(h:yX W0 w b p (.slice none 0 0) [])(hs:s.size<=4096)(hK:aN W0):
  Calls Tryz.prog 257 #[.iface 564 (.pointer (some ⟨b,0,none⟩)),.string s,.int .i64 deep] w (D5 (vV (ak s)) W0 b):=by
 obtain⟨ok,hok⟩: ∃ok,vV (ak s)=ok:=⟨_,rfl⟩;rw[hok];unfold vV at hok;obtain⟨w1,c,hcv,aH,cW⟩:=qN s w (by omega);have mT:=Pz;have mD:=PD;have hbw:=aj h.row;replace cW:=af cW;replace h:=af h;have Js:=af hK;clear hK aH;go_enter Tryz.func257,Tryz.ntmps257
 go_wp2_with fail
 refine cW.out.mono ?_;intro e w2 hp;clear cW hcv;cases hw:sj (ak s)with
 |none=>
  rw[hw]at hp hok;simp only at hok;obtain⟨⟨ec,ay,rfl⟩,hO2⟩:=hp;have aF:=af hok.symm;have q:(ec !=0)=true:=by simpa using ay
  change Hid _ at ay;replace hO2:=af (h.out.own.trans hO2);clear hw hok;go_wp2_with fail
  go_ret
  exact Bp aF.out ay.out hO2.out
 |some l=>
  rw[hw]at hp hok;simp only at hok;obtain⟨⟨aT,rfl,hS⟩,hO2⟩:=hp;obtain⟨hll,hf⟩:=mG (bN s) hw;have hvb: ∀g,aT.ownBlock=some g->g<w2.heap.size/\g≠b:=fun g hg=>by have:=hS.block hg;exact⟨this.2,by omega⟩
  have sG:=af (hS.reads dX);obtain⟨va,vc,rfl⟩:=hS.sl;have vE:=af (h.out.nil' hO2);change Hid _ at hf hok hvb;clear hw hS hO2 h;go_wp2_with fail
  go_loopg[23] l.length (fun g ZO wr=> ∃(k:Nat) (p:GI) (rv:Value),k<=l.length/\g=l.length-k/\ZO=.int .i64 k/\Aside (yX W0 wr b p rv (mO (l.take k))/\ai [b] w2 wr/\(∀g,rv.ownBlock=some g->w2.heap.size<=g)/\(l.take k).all oV=true))
  case atStart=>exact⟨0,_,_,by omega,by omega,rfl,vE.out,ai.refl _ _,fun g hg=>(by cases hg),by simp⟩
  case round=>
   obtain⟨k,p,rv,hk,rfl,rfl,hP,hOb,hrg,hgood⟩:=hrel;have k0:(0:Int)<=k:=by omega
   by_cases hlt:k<l.length
   ·have k1:(k:Int)<l.length:=by omega
    have hwk:IntKind.i64.wrap ((k:Int)+1)=(k:Int)+1:=IntWalk.i64_in _ (by omega);obtain⟨b1,o1,rfl,c0,c1,c2,c3⟩:=(sG.out.own hOb (fun g hg=>by have:=(hvb.out g hg).2;simpa using this)).fld hlt;have hF:=hf.out l[k] (List.getElem_mem hlt);have hstep:=fun hp=>D6 (l:=l) hlt hp
    have Rc:(mO (l.take k)).length<=256:=Nat.le_trans (List.length_filter_le _ _) (by rw[List.length_take];omega);have hnext:oV l[k]=true->(l.take (k+1)).all oV=true:=fun hh=>by
     rw[List.take_succ_eq_append_getElem hlt,List.all_append,hgood];simp[hh]
    have hbad:oV l[k]=false->ok=false:=fun hh=>by
     have hr:=hok.out;rw[show l.all oV=false by rw[List.all_eq_false];exact⟨l[k],List.getElem_mem hlt,by simp[hh]⟩]at hr;simpa using hr.symm
    generalize l[k]=f at*;have hA:=(ai.refl [] wr).alloc (.cells (fL f).toArray 100);have cT:=GK W0 _ b p rv _ f (hP.nil' hA) hF Rc;have hszA:=hA.size;obtain⟨⟨d0,d1,d2,d3⟩,-⟩:=q4 (heap_alloc_new wr (.cells (fL f).toArray 100));obtain⟨f1,f2,f3,f4⟩:=f;unfold fL at*;simp only at*;cases hpf:oV ⟨f1,f2,f3,f4⟩with
    |true=>
     rw[hstep hpf]at cT;unfold kQ at cT;have hg:=af (hnext hpf);replace cT:=af cT;have Xj:=af (hOb.trans hA.nil);have UH:=af (hOb.trans (hA.nil (S:=[b]))).size;change Hid _ at hrg;clear hstep hnext hbad hgood hpf hP hOb hA hszA vE;go_wp2_with fail
     refine cT.out.mono ?_;rintro e w5 ⟨rfl,p',rv',hP',jk,hg'⟩;have QT:=af (Xj.out.trans' jk (fun x hx=>by
      rcases List.mem_cons.1 hx with rfl|hx
      ·exact .inl (by simp)
      ·exact .inr (hrg.out x (Option.mem_toList.1 hx))))
     have Xk:=af (show∀g,rv'.ownBlock=some g->w2.heap.size<=g from fun g hg=>(hg' g hg).elim (fun h4=>hrg.out g h4) (fun h4=>Nat.le_trans UH.out h4));change Hid _ at hP';clear jk hg' d0 d1 d2 d3 cT;go_wp2_with fail
     go_roundg(l.length-(k+1))
     case measure=>omega
     case rel=>exact⟨k+1,_,_,by omega,rfl,by simp,hP'.out,QT.out,Xk.out,hg.out⟩
    |false=>
     rw[show gI (mO (l.take k)) ⟨f1,f2,f3,f4⟩=none by unfold gI;rw[if_neg (by rw[hpf];simp)]]at cT;unfold kQ at cT;have aF:=af (hbad hpf);replace cT:=af cT;clear hstep hnext hbad hgood hpf hP hOb hA hszA vE;go_wp2_with fail
     refine cT.out.mono ?_;rintro e w5 ⟨⟨ec,ay,rfl⟩,aB⟩;have q:(ec !=0)=true:=by simpa using ay
     change Hid _ at ay aB;go_wp2_with fail
     go_ret
     exact Bp aF.out ay.out aB.out
   ·have k1: ¬(k:Int)<l.length:=by omega
    rw[List.take_of_length_le (by omega)]at hgood hP;have Rc:(mO l).length<=256:=Nat.le_trans (List.length_filter_le _ _) hll;have cD:=GL W0 wr b p rv (mO l) deep hP Rc (fun f hf'=>hf.out f (List.mem_filter.1 hf').1) (Js.out.own hP.own);have hok2:=hok.out;rw[hgood,Bool.true_and]at hok2;have iU:(MU 3 false (mO l)).isSome=ok:=hok2;cases hv:MU 3 false (mO l)with
    |none=>
     rw[hv]at cD iU;have aF:ok=false:=iU.symm;change Hid _ at aF;unfold kQ at cD;simp only[Option.map_none]at cD;replace cD:=af cD;clear hgood hP hOb hrg hok hok2 iU hv vE;go_wp2_with fail
     refine cD.out.mono ?_;rintro e w5 ⟨⟨ec,ay,rfl⟩,aB⟩;change Hid _ at ay aB;go_wp2_with fail
     go_ret
     exact Bp aF.out ay.out aB.out
    |some y=>
     rw[hv]at cD iU;have jd:ok=true:=iU.symm;change Hid _ at jd;unfold kQ at cD;simp only[Option.map_some]at cD;replace cD:=af cD;clear hgood hP hOb hrg hok hok2 iU hv vE;go_wp2_with fail
     refine cD.out.mono ?_;rintro e w5 ⟨rfl,p',rv',hP',_,_⟩;change Hid _ at hP';go_wp2_with fail
     go_ret
     rw[jd.out];exact⟨rfl,_,_,_,hP'.out⟩
structure EG where
 ver:ByteArray
 ref:ByteArray
 df:Bool
def qU(p:EG)(mv nv:Value):Array Value:=#[.string p.ver,.string p.ref,.bool p.df,.slice none 0 0,.slice none 0 0,mv,nv]
structure uz (W0 w:World) (b:Nat) (p:EG) (mv nv:Value) (M N:List ByteArray):Prop where
 own:ai [] W0 w
 row:w.heap[b]?=some (.cells (qU p mv nv) 551 (0,0))
 base:W0.heap.size<=b
 m:Sl 9 BM 1 W0.heap.size w mv M
 n:Sl 9 BM 1 W0.heap.size w nv N
 rm: ∀g,mv.ownBlock=some g->g≠b
 rn: ∀g,nv.ownBlock=some g->g≠b
 ap: ∀g,mv.ownBlock=some g->nv.ownBlock≠some g
section
variable {W0 w w' w1 : World} {b : Nat} {p : EG} {mv nv v' : Value} {M N L' : List ByteArray}
theorem uz.nil'(h:uz W0 w b p mv nv M N)(ho:ai [] w w'):uz W0 w' b p mv nv M N:=⟨h.own.trans ho,ho.heap h.row (by simp),h.base,h.m.nil' ho,h.n.nil' ho,h.rm,h.rn,h.ap⟩
theorem uz.set(h:uz W0 w b p mv nv M N){i:Nat}{u:Value}{p':EG}(hs:jh w w' b i u)(hx:(qU p mv nv).setIfInBounds i u=qU p' mv nv):uz W0 w' b p' mv nv M N:=by
 have hr:=hs.row _ _ h.row;rw[hx]at hr;exact⟨h.own.trans' hs.own (fun x hx=>.inr (by simp at hx;subst hx;exact h.base)),hr,h.base,h.m.own hs.own (fun g hg=>by simpa using h.rm g hg),h.n.own hs.own (fun g hg=>by simpa using h.rn g hg),h.rm,h.rn,h.ap⟩
theorem uz.cell(h:uz W0 w b p mv nv M N)(i:Nat){u:Value}(hu:(qU p mv nv)[i]?=some u):w.cell? ⟨b,i,none⟩=some u/\w.frozen? ⟨b,i,none⟩=false:=
 ⟨by rw[cell_of_row _ _ _ _ _ _ h.row];exact hu,frozen_of_row _ b i _ _ h.row⟩
theorem uz.addM(h:uz W0 w b p mv nv M N)(h1:Sl 9 BM 1 W0.heap.size w1 v' L')(h2:ai mv.ownBlock.toList w w1)(h3: ∀g,v'.ownBlock=some g->mv.ownBlock=some g\/w.heap.size<=g):
  (w1.cell? ⟨b,5,none⟩=some mv/\w1.frozen? ⟨b,5,none⟩=false)/\uz W0 (w1.setCell ⟨b,5,none⟩ v') b p v' nv L' N:=by
 have hd:b∉mv.ownBlock.toList:=fun hx=>h.rm _ (Option.mem_toList.1 hx) rfl
 have hb1:=h2.heap h.row hd;have hbl:=aj h.row;have hnd: ∀g,v'.ownBlock=some g->g≠b:=fun g hg e=>by
  rcases h3 g hg with h4|h4
  ·exact h.rm g h4 e
  ·omega
 have hO2:ai [b] w1 (w1.setCell ⟨b,5,none⟩ v'):=(ai.refl _ _).setCell (.inl (by simp)) _;have hot:=(h.n.own h2 (fun g hg hx=>h.ap g (Option.mem_toList.1 hx) hg)).own hO2 (fun g hg=>by simpa using h.rn g hg);refine⟨⟨by rw[cell_of_row _ _ _ _ _ _ hb1];rfl,frozen_of_row _ b 5 _ _ hb1⟩,(h.own.trans' h2 (fun x hx=>.inr (h.m.block (Option.mem_toList.1 hx)).1)).trans' hO2 (fun x hx=>.inr (by simp at hx;subst hx;exact h.base)),?_,h.base,h1.own hO2 (fun g hg=>by simpa using hnd g hg),hot,hnd,h.rn,fun g hg ht=>?_⟩
 ·have:=heap_setCell_same _ b 5 _ _ v' hb1
  simpa[qU]using this
 ·rcases h3 g hg with h4|h4
  ·exact h.ap g h4 ht
  ·have:=(h.n.block ht).2;omega
theorem uz.addN(h:uz W0 w b p mv nv M N)(h1:Sl 9 BM 1 W0.heap.size w1 v' L')(h2:ai nv.ownBlock.toList w w1)(h3: ∀g,v'.ownBlock=some g->nv.ownBlock=some g\/w.heap.size<=g):
  (w1.cell? ⟨b,6,none⟩=some nv/\w1.frozen? ⟨b,6,none⟩=false)/\uz W0 (w1.setCell ⟨b,6,none⟩ v') b p mv v' M L':=by
 have hd:b∉nv.ownBlock.toList:=fun hx=>h.rn _ (Option.mem_toList.1 hx) rfl
 have hb1:=h2.heap h.row hd;have hbl:=aj h.row;have hnd: ∀g,v'.ownBlock=some g->g≠b:=fun g hg e=>by
  rcases h3 g hg with h4|h4
  ·exact h.rn g h4 e
  ·omega
 have hO2:ai [b] w1 (w1.setCell ⟨b,6,none⟩ v'):=(ai.refl _ _).setCell (.inl (by simp)) _;have hot:=(h.m.own h2 (fun g hg hx=>h.ap g hg (Option.mem_toList.1 hx))).own hO2 (fun g hg=>by simpa using h.rm g hg);refine⟨⟨by rw[cell_of_row _ _ _ _ _ _ hb1];rfl,frozen_of_row _ b 6 _ _ hb1⟩,(h.own.trans' h2 (fun x hx=>.inr (h.n.block (Option.mem_toList.1 hx)).1)).trans' hO2 (fun x hx=>.inr (by simp at hx;subst hx;exact h.base)),?_,h.base,hot,h1.own hO2 (fun g hg=>by simpa using hnd g hg),h.rm,hnd,fun g hg ht=>?_⟩
 ·have:=heap_setCell_same _ b 6 _ _ v' hb1
  simpa[qU]using this
 ·rcases h3 g ht with h4|h4
  ·exact h.ap g hg h4
  ·have:=(h.m.block hg).2;omega
end
def kR(t:Option (List ByteArray×List ByteArray))(W0 w:World)(b:Nat)(mv nv:Value)(e:Ending)(w':World):Prop:=
 match t with
 |some L=>e=.returned (.int .i64 0)/\ ∃p mv' Vo,uz W0 w' b p mv' Vo L.1 L.2/\ai (b::(mv.ownBlock.toList++nv.ownBlock.toList)) w w'/\(∀g,mv'.ownBlock=some g->mv.ownBlock=some g\/w.heap.size<=g)/\ ∀g,Vo.ownBlock=some g->nv.ownBlock=some g\/w.heap.size<=g
 |none=>(∃ec:Int,ec≠0/\e=.returned (.int .i64 ec))/\ai [] W0 w'
def bX(L:List ByteArray×List ByteArray)(f:bG):Option (List ByteArray×List ByteArray):=if jK f=true then some (if f.num=2 then(L.1++[f.text],L.2)else if f.num=3 then(L.1,L.2++[f.text])else L)else none
theorem zY{t:Option (List ByteArray×List ByteArray)}{W0 w w':World}{b:Nat}{p:EG}{mv nv mv' Vo:Value}{L:List ByteArray×List ByteArray}(ht:t=some L)(h:uz W0 w' b p mv' Vo L.1 L.2)(ho:ai (b::(mv.ownBlock.toList++nv.ownBlock.toList)) w w')(hg: ∀g,mv'.ownBlock=some g->mv.ownBlock=some g\/w.heap.size<=g)(hg2: ∀g,Vo.ownBlock=some g->nv.ownBlock=some g\/w.heap.size<=g):kR t W0 w b mv nv (.returned (.int .i64 0)) w':=by rw[ht];exact⟨rfl,p,mv',Vo,h,ho,hg,hg2⟩
theorem yg{t:Option (List ByteArray×List ByteArray)}{W0 w w':World}{b:Nat}{mv nv:Value}{ec:Int}(ht:t=none)(h:ec≠0)(ho:ai [] W0 w'):kR t W0 w b mv nv (.returned (.int .i64 ec)) w':=by rw[ht];exact⟨⟨ec,h,rfl⟩,ho⟩
theorem PE(W0 w:World)(b:Nat)(p:EG)(mv nv:Value)(L:List ByteArray×List ByteArray)(k v:Int)(t:ByteArray)(h:uz W0 w b p mv nv L.1 L.2):
  Calls Tryz.prog 441 #[.pointer (some ⟨b,0,none⟩),.agg #[.int .i64 1,.int .i64 k,.int .u64 v,.string t]] w (kR (bX L ⟨1,k,v,t⟩) W0 w b mv nv):=by
 have hms:bX L ⟨1,k,v,t⟩=if k=2 then some L else none:=by simp[bX,jK]
 generalize bX L ⟨1,k,v,t⟩=R at hms⊢;have hA:=((ai.refl [] w).alloc (.cells #[.int .i64 1,.int .i64 k,.int .u64 v,.string t] 100)).alloc (.cells #[.string ⟨#[]⟩] 9);have hM1:=h.nil' hA;have hbl:=aj h.row;obtain⟨⟨a0,a1,a2,a3⟩,-⟩:=q4 (heap_alloc_new w (.cells #[.int .i64 1,.int .i64 k,.int .u64 v,.string t] 100));obtain⟨⟨d0,d1,d2,d3⟩,-⟩:=q4 (((ai.refl [] (w.alloc (.cells #[.int .i64 1,.int .i64 k,.int .u64 v,.string t] 100))).alloc (.cells #[.string ⟨#[]⟩] 9)).heap (heap_alloc_new w (.cells #[.int .i64 1,.int .i64 k,.int .u64 v,.string t] 100)) (by simp));have fO:=hM1.nil' ((ai.refl [] _).drew);have cT:=fV ⟨1,k,v,t⟩ b 0 (.string p.ver) _ (fO.cell 0 rfl).1 (fO.cell 0 rfl).2;replace fO:=af fO;unfold fL at cT;simp only at cT;by_cases hok:k=2
 ·rw[if_pos hok]at hms
  have hb:(k==2)=true:=by simpa using hok
  rw[hb]at cT;unfold aL at cT;change Hid _ at hms;replace cT:=af cT;clear hM1 hA h hok hb;go_enter Tryz.func441,Tryz.ntmps441
  go_wp2_with fail
  go_region_held3(fun W=>W.cell? ⟨w.heap.size,0,none⟩=some (.int .i64 1)/\W.cell? ⟨w.heap.size,1,none⟩=some (.int .i64 k)/\W.cell? ⟨w.heap.size,2,none⟩=some (.int .u64 v)/\W.cell? ⟨w.heap.size,3,none⟩=some (.string t)) (go_keep) ((go_at_call 385;(with_reducible refine cT.out.mono ?_);rintro e w2 ⟨rfl,hS⟩;have hM2:=af (fO.out.set (p':={p with ver:=t}) hS rfl);have hOb:Hid (ai (b::(mv.ownBlock.toList++nv.ownBlock.toList)) w w2):=af (((((ai.refl [] w).alloc (.cells #[.int .i64 1,.int .i64 k,.int .u64 v,.string t] 100)).alloc (.cells #[.string ⟨#[]⟩] 9)).drew.nil (S:=[b])).trans hS.own |>.mono (by simp));have lW:w2.cell? ⟨w.heap.size,0,none⟩=some (.int .i64 1)/\w2.cell? ⟨w.heap.size,1,none⟩=some (.int .i64 k)/\w2.cell? ⟨w.heap.size,2,none⟩=some (.int .u64 v)/\w2.cell? ⟨w.heap.size,3,none⟩=some (.string t):=⟨(hS.own.cell (block_lt_of_cell d0) (by simp;try omega)).trans d0,(hS.own.cell (block_lt_of_cell d1) (by simp;try omega)).trans d1,(hS.own.cell (block_lt_of_cell d2) (by simp;try omega)).trans d2,(hS.own.cell (block_lt_of_cell d3) (by simp;try omega)).trans d3⟩;clear hS))
  all_goals
   go_wp2_with fail
   go_ret
   exact zY hms.out hM2.out hOb.out (fun g hg=>.inl hg) (fun g hg=>.inl hg)
 ·rw[if_neg hok]at hms
  have hb:(k==2)=false:=by
   rw[Bool.eq_false_iff];intro hh;exact hok (by simpa using hh)
  rw[hb]at cT;unfold aL at cT;change Hid _ at hms;replace cT:=af cT;clear hM1 hA h hok hb;go_enter Tryz.func441,Tryz.ntmps441
  go_wp2_with fail
  go_region_held3(fun W=>W.cell? ⟨w.heap.size,0,none⟩=some (.int .i64 1)/\W.cell? ⟨w.heap.size,1,none⟩=some (.int .i64 k)/\W.cell? ⟨w.heap.size,2,none⟩=some (.int .u64 v)/\W.cell? ⟨w.heap.size,3,none⟩=some (.string t)) (go_keep) ((go_at_call 385;(with_reducible refine cT.out.mono ?_);rintro e w2 ⟨⟨ec,ay,rfl⟩,hS⟩;have hO2:=af (fO.out.own.trans hS);replace ay:=af ay;have lW:w2.cell? ⟨w.heap.size,0,none⟩=some (.int .i64 1)/\w2.cell? ⟨w.heap.size,1,none⟩=some (.int .i64 k)/\w2.cell? ⟨w.heap.size,2,none⟩=some (.int .u64 v)/\w2.cell? ⟨w.heap.size,3,none⟩=some (.string t):=⟨(hS.cell (block_lt_of_cell d0) (by simp;try omega)).trans d0,(hS.cell (block_lt_of_cell d1) (by simp;try omega)).trans d1,(hS.cell (block_lt_of_cell d2) (by simp;try omega)).trans d2,(hS.cell (block_lt_of_cell d3) (by simp;try omega)).trans d3⟩;clear hS))
  all_goals
   go_wp2_with fail
   go_ret
   exact yg hms.out ay.out hO2.out
theorem PG(W0 w:World)(b:Nat)(p:EG)(mv nv:Value)(L:List ByteArray×List ByteArray)(k v:Int)(t:ByteArray)(h:uz W0 w b p mv nv L.1 L.2):
  Calls Tryz.prog 441 #[.pointer (some ⟨b,0,none⟩),.agg #[.int .i64 4,.int .i64 k,.int .u64 v,.string t]] w (kR (bX L ⟨4,k,v,t⟩) W0 w b mv nv):=by
 have hms:bX L ⟨4,k,v,t⟩=if k=2 then some L else none:=by simp[bX,jK]
 generalize bX L ⟨4,k,v,t⟩=R at hms⊢;have hA:=((ai.refl [] w).alloc (.cells #[.int .i64 4,.int .i64 k,.int .u64 v,.string t] 100)).alloc (.cells #[.string ⟨#[]⟩] 9);have hM1:=h.nil' hA;have hbl:=aj h.row;obtain⟨⟨a0,a1,a2,a3⟩,-⟩:=q4 (heap_alloc_new w (.cells #[.int .i64 4,.int .i64 k,.int .u64 v,.string t] 100));obtain⟨⟨d0,d1,d2,d3⟩,-⟩:=q4 (((ai.refl [] (w.alloc (.cells #[.int .i64 4,.int .i64 k,.int .u64 v,.string t] 100))).alloc (.cells #[.string ⟨#[]⟩] 9)).heap (heap_alloc_new w (.cells #[.int .i64 4,.int .i64 k,.int .u64 v,.string t] 100)) (by simp));have fO:=hM1.nil' ((ai.refl [] _).drew);have cT:=fV ⟨4,k,v,t⟩ b 1 (.string p.ref) _ (fO.cell 1 rfl).1 (fO.cell 1 rfl).2;replace fO:=af fO;unfold fL at cT;simp only at cT;by_cases hok:k=2
 ·rw[if_pos hok]at hms
  have hb:(k==2)=true:=by simpa using hok
  rw[hb]at cT;unfold aL at cT;change Hid _ at hms;replace cT:=af cT;clear hM1 hA h hok hb;go_enter Tryz.func441,Tryz.ntmps441
  go_wp2_with fail
  go_region_held3(fun W=>W.cell? ⟨w.heap.size,0,none⟩=some (.int .i64 4)/\W.cell? ⟨w.heap.size,1,none⟩=some (.int .i64 k)/\W.cell? ⟨w.heap.size,2,none⟩=some (.int .u64 v)/\W.cell? ⟨w.heap.size,3,none⟩=some (.string t)) (go_keep) ((go_at_call 385;(with_reducible refine cT.out.mono ?_);rintro e w2 ⟨rfl,hS⟩;have hM2:=af (fO.out.set (p':={p with ref:=t}) hS rfl);have hOb:Hid (ai (b::(mv.ownBlock.toList++nv.ownBlock.toList)) w w2):=af (((((ai.refl [] w).alloc (.cells #[.int .i64 4,.int .i64 k,.int .u64 v,.string t] 100)).alloc (.cells #[.string ⟨#[]⟩] 9)).drew.nil (S:=[b])).trans hS.own |>.mono (by simp));have lW:w2.cell? ⟨w.heap.size,0,none⟩=some (.int .i64 4)/\w2.cell? ⟨w.heap.size,1,none⟩=some (.int .i64 k)/\w2.cell? ⟨w.heap.size,2,none⟩=some (.int .u64 v)/\w2.cell? ⟨w.heap.size,3,none⟩=some (.string t):=⟨(hS.own.cell (block_lt_of_cell d0) (by simp;try omega)).trans d0,(hS.own.cell (block_lt_of_cell d1) (by simp;try omega)).trans d1,(hS.own.cell (block_lt_of_cell d2) (by simp;try omega)).trans d2,(hS.own.cell (block_lt_of_cell d3) (by simp;try omega)).trans d3⟩;clear hS))
  all_goals
   go_wp2_with fail
   go_ret
   exact zY hms.out hM2.out hOb.out (fun g hg=>.inl hg) (fun g hg=>.inl hg)
 ·rw[if_neg hok]at hms
  have hb:(k==2)=false:=by
   rw[Bool.eq_false_iff];intro hh;exact hok (by simpa using hh)
  rw[hb]at cT;unfold aL at cT;change Hid _ at hms;replace cT:=af cT;clear hM1 hA h hok hb;go_enter Tryz.func441,Tryz.ntmps441
  go_wp2_with fail
  go_region_held3(fun W=>W.cell? ⟨w.heap.size,0,none⟩=some (.int .i64 4)/\W.cell? ⟨w.heap.size,1,none⟩=some (.int .i64 k)/\W.cell? ⟨w.heap.size,2,none⟩=some (.int .u64 v)/\W.cell? ⟨w.heap.size,3,none⟩=some (.string t)) (go_keep) ((go_at_call 385;(with_reducible refine cT.out.mono ?_);rintro e w2 ⟨⟨ec,ay,rfl⟩,hS⟩;have hO2:=af (fO.out.own.trans hS);replace ay:=af ay;have lW:w2.cell? ⟨w.heap.size,0,none⟩=some (.int .i64 4)/\w2.cell? ⟨w.heap.size,1,none⟩=some (.int .i64 k)/\w2.cell? ⟨w.heap.size,2,none⟩=some (.int .u64 v)/\w2.cell? ⟨w.heap.size,3,none⟩=some (.string t):=⟨(hS.cell (block_lt_of_cell d0) (by simp;try omega)).trans d0,(hS.cell (block_lt_of_cell d1) (by simp;try omega)).trans d1,(hS.cell (block_lt_of_cell d2) (by simp;try omega)).trans d2,(hS.cell (block_lt_of_cell d3) (by simp;try omega)).trans d3⟩;clear hS))
  all_goals
   go_wp2_with fail
   go_ret
   exact yg hms.out ay.out hO2.out
theorem PI(W0 w:World)(b:Nat)(p:EG)(mv nv:Value)(L:List ByteArray×List ByteArray)(k v:Int)(t:ByteArray)(h:uz W0 w b p mv nv L.1 L.2):
  Calls Tryz.prog 441 #[.pointer (some ⟨b,0,none⟩),.agg #[.int .i64 5,.int .i64 k,.int .u64 v,.string t]] w (kR (bX L ⟨5,k,v,t⟩) W0 w b mv nv):=by
 have hms:bX L ⟨5,k,v,t⟩=if k=0/\v<=1 then some L else none:=by simp[bX,jK]
 generalize bX L ⟨5,k,v,t⟩=R at hms⊢;have hA:=((ai.refl [] w).alloc (.cells #[.int .i64 5,.int .i64 k,.int .u64 v,.string t] 100)).alloc (.cells #[.string ⟨#[]⟩] 9);have hM1:=h.nil' hA;have hbl:=aj h.row;obtain⟨⟨a0,a1,a2,a3⟩,-⟩:=q4 (heap_alloc_new w (.cells #[.int .i64 5,.int .i64 k,.int .u64 v,.string t] 100));obtain⟨⟨d0,d1,d2,d3⟩,-⟩:=q4 (((ai.refl [] (w.alloc (.cells #[.int .i64 5,.int .i64 k,.int .u64 v,.string t] 100))).alloc (.cells #[.string ⟨#[]⟩] 9)).heap (heap_alloc_new w (.cells #[.int .i64 5,.int .i64 k,.int .u64 v,.string t] 100)) (by simp));have fO:=hM1.nil' ((ai.refl [] _).drew);have cT:=qK ⟨5,k,v,t⟩ b 2 (.bool p.df) _ (fO.cell 2 rfl).1 (fO.cell 2 rfl).2;replace fO:=af fO;unfold fL at cT;simp only at cT;by_cases hok:k=0/\v<=1
 ·rw[if_pos hok]at hms
  have hb:(k==0&&decide (v<=1))=true:=by simpa using hok
  rw[hb]at cT;unfold aL at cT;change Hid _ at hms;replace cT:=af cT;clear hM1 hA h hok hb;go_enter Tryz.func441,Tryz.ntmps441
  go_wp2_with fail
  go_region_held3(fun W=>W.cell? ⟨w.heap.size,0,none⟩=some (.int .i64 5)/\W.cell? ⟨w.heap.size,1,none⟩=some (.int .i64 k)/\W.cell? ⟨w.heap.size,2,none⟩=some (.int .u64 v)/\W.cell? ⟨w.heap.size,3,none⟩=some (.string t)) (go_keep) ((go_at_call 388;(with_reducible refine cT.out.mono ?_);rintro e w2 ⟨rfl,hS⟩;have hM2:=af (fO.out.set (p':={p with df:=v==1}) hS rfl);have hOb:Hid (ai (b::(mv.ownBlock.toList++nv.ownBlock.toList)) w w2):=af (((((ai.refl [] w).alloc (.cells #[.int .i64 5,.int .i64 k,.int .u64 v,.string t] 100)).alloc (.cells #[.string ⟨#[]⟩] 9)).drew.nil (S:=[b])).trans hS.own |>.mono (by simp));have lW:w2.cell? ⟨w.heap.size,0,none⟩=some (.int .i64 5)/\w2.cell? ⟨w.heap.size,1,none⟩=some (.int .i64 k)/\w2.cell? ⟨w.heap.size,2,none⟩=some (.int .u64 v)/\w2.cell? ⟨w.heap.size,3,none⟩=some (.string t):=⟨(hS.own.cell (block_lt_of_cell d0) (by simp;try omega)).trans d0,(hS.own.cell (block_lt_of_cell d1) (by simp;try omega)).trans d1,(hS.own.cell (block_lt_of_cell d2) (by simp;try omega)).trans d2,(hS.own.cell (block_lt_of_cell d3) (by simp;try omega)).trans d3⟩;clear hS))
  all_goals
   go_wp2_with fail
   go_ret
   exact zY hms.out hM2.out hOb.out (fun g hg=>.inl hg) (fun g hg=>.inl hg)
 ·rw[if_neg hok]at hms
  have hb:(k==0&&decide (v<=1))=false:=by
   rw[Bool.eq_false_iff];intro hh;exact hok (by simpa using hh)
  rw[hb]at cT;unfold aL at cT;change Hid _ at hms;replace cT:=af cT;clear hM1 hA h hok hb;go_enter Tryz.func441,Tryz.ntmps441
  go_wp2_with fail
  go_region_held3(fun W=>W.cell? ⟨w.heap.size,0,none⟩=some (.int .i64 5)/\W.cell? ⟨w.heap.size,1,none⟩=some (.int .i64 k)/\W.cell? ⟨w.heap.size,2,none⟩=some (.int .u64 v)/\W.cell? ⟨w.heap.size,3,none⟩=some (.string t)) (go_keep) ((go_at_call 388;(with_reducible refine cT.out.mono ?_);rintro e w2 ⟨⟨ec,ay,rfl⟩,hS⟩;have hO2:=af (fO.out.own.trans hS);replace ay:=af ay;have lW:w2.cell? ⟨w.heap.size,0,none⟩=some (.int .i64 5)/\w2.cell? ⟨w.heap.size,1,none⟩=some (.int .i64 k)/\w2.cell? ⟨w.heap.size,2,none⟩=some (.int .u64 v)/\w2.cell? ⟨w.heap.size,3,none⟩=some (.string t):=⟨(hS.cell (block_lt_of_cell d0) (by simp;try omega)).trans d0,(hS.cell (block_lt_of_cell d1) (by simp;try omega)).trans d1,(hS.cell (block_lt_of_cell d2) (by simp;try omega)).trans d2,(hS.cell (block_lt_of_cell d3) (by simp;try omega)).trans d3⟩;clear hS))
  all_goals
   go_wp2_with fail
   go_ret
   exact yg hms.out ay.out hO2.out
end Go.Proofs.YtedcakchekaemaaGreatDoor
namespace Go.Proofs.YtedcakchekaemaaGreatDoor
open Go.RowKit
variable [Kd]
theorem PK(W0 w:World)(b:Nat)(p:EG)(mv nv:Value)(L:List ByteArray×List ByteArray)(k v:Int)(t:ByteArray)(h:uz W0 w b p mv nv L.1 L.2)(hL:L.1.length<=256):
  Calls Tryz.prog 441 #[.pointer (some ⟨b,0,none⟩),.agg #[.int .i64 2,.int .i64 k,.int .u64 v,.string t]] w (kR (bX L ⟨2,k,v,t⟩) W0 w b mv nv):=by
 have hms:bX L ⟨2,k,v,t⟩=if k=2 then some (L.1++[t],L.2)else none:=by simp[bX,jK]
 generalize bX L ⟨2,k,v,t⟩=R at hms⊢;have hA:=((ai.refl [] w).alloc (.cells #[.int .i64 2,.int .i64 k,.int .u64 v,.string t] 100)).alloc (.cells #[.string ⟨#[]⟩] 9);have hM1:=h.nil' hA;obtain⟨⟨a0,a1,a2,a3⟩,-⟩:=q4 (heap_alloc_new w (.cells #[.int .i64 2,.int .i64 k,.int .u64 v,.string t] 100));obtain⟨⟨d0,d1,d2,d3⟩,-⟩:=q4 (((ai.refl [] (w.alloc (.cells #[.int .i64 2,.int .i64 k,.int .u64 v,.string t] 100))).alloc (.cells #[.string ⟨#[]⟩] 9)).heap (heap_alloc_new w (.cells #[.int .i64 2,.int .i64 k,.int .u64 v,.string t] 100)) (by simp));have hsb:=heap_alloc2_new w (.cells #[.int .i64 2,.int .i64 k,.int .u64 v,.string t] 100) (.cells #[.string ⟨#[]⟩] 9);have cT:=fV ⟨2,k,v,t⟩ (w.heap.size+1) 0 (.string ⟨#[]⟩) _ (cell_of_row _ _ 0 _ _ _ hsb) (frozen_of_row _ _ 0 _ _ hsb);unfold fL at cT;simp only at cT;have hbw:=aj h.row;have uy:=hA.size;by_cases hok:k=2
 ·subst hok
  rw[if_pos rfl]at hms;unfold aL at cT;change Hid _ at hms hA hsb uy;replace cT:=af cT;replace hM1:=af hM1;have hl1:=af (show(L.1.length+[t].length)*16<=140737488355328 by simp only[List.length_singleton];omega);have hl2:=af (show L.1.length+[t].length<=maxLen by unfold maxLen;simp only[List.length_singleton];omega);have hl3:=af (show(L.1++[t]).length=L.1.length+1 by simp);have Xl: ∀g,mv.ownBlock=some g->g<w.heap.size:=fun g hg=>(h.m.block hg).2
  have Xm: ∀g,nv.ownBlock=some g->g<w.heap.size:=fun g hg=>(h.n.block hg).2
  obtain⟨ra,rc,rfl⟩:=h.m.sl;clear h;go_enter Tryz.func441,Tryz.ntmps441
  go_wp2_with fail
  refine cT.out.mono ?_;rintro e w2 ⟨rfl,hSt⟩;have hO2:ai [] w w2:=hA.out.trans' hSt.own (fun x hx=>.inr (by simp at hx;omega));have hM2:uz W0 w2 b p (.slice ra L.1.length rc) nv L.1 L.2:=by
   have hb2:=hM1.out;have hsz1:W0.heap.size<=w.heap.size+1:=by have:=hb2.base;omega
   exact⟨hb2.own.trans' hSt.own (fun x hx=>.inr (by simp at hx;omega)),hSt.own.heap hb2.row (by simp;omega),hb2.base,hb2.m.own hSt.own (fun g hg=>by have:=(Xl g hg);simp;omega),hb2.n.own hSt.own (fun g hg=>by have:=(Xm g hg);simp;omega),hb2.rm,hb2.rn,hb2.ap⟩
  have hs2:=hSt.row _ _ hsb.out;have yI:w.heap.size<=w2.heap.size:=hO2.size;change Hid _ at yI;replace hO2:=af hO2;replace hM2:=af hM2;clear cT hA hM1 hSt hsb uy hbw;go_wp2_with fail
  clear a0 a1 a2 a3 d0 d1 d2 d3;generalize QU:w.heap.size+1=sb at*;change Hid _ at QU;have hD:=hM2.out.nil' ((ai.refl [] w2).drew);obtain⟨p5,_⟩:=hD.cell 5 (u:=.slice ra L.1.length rc) rfl;have x0:w2.drew.cell? ⟨sb,0,none⟩=some (.string t):=cell_of_row _ _ 0 _ _ _ ((ai.refl [] w2).drew.heap hs2 (by simp));have Ih:=hM2.out.nil' (((ai.refl [] w2).alloc (.cells #[.string t] 9)).drew);obtain⟨q5,_⟩:=Ih.cell 5 (u:=.slice ra L.1.length rc) rfl;have x1:((w2.alloc (.cells #[.string t] 9)).drew).cell? ⟨sb,0,none⟩=some (.string t):=cell_of_row _ _ 0 _ _ _ ((((ai.refl [] w2).alloc (.cells #[.string t] 9)).drew).heap hs2 (by simp));have mX:=af ((aA.new (enc:=BM) (T:=9) w2 t 1).nil' ((ai.refl [] _).drew));replace Ih:=af Ih;simp only[BM]at mX;clear hD hs2;go_region_law((go_loud(refine fu rfl (.tmp 43) (.tmp 45) (by rfl) Ba Ih.out.own (by rfl) Ih.out.m (by rfl) mX.out hl1.out hl2.out ?_);intro va w5 hS5 hqq hg5 gW;obtain⟨a5,c5,rfl⟩:=hS5.sl;rw[hl3.out]at hS5 hg5⊢;obtain⟨⟨kC,f5⟩,om⟩:=Ih.out.addM hS5 gW hg5;have hOb:Hid (ai (b::((Value.slice ra L.1.length rc).ownBlock.toList++nv.ownBlock.toList)) w (w5.setCell ⟨b,5,none⟩ (.slice a5 (L.1.length+1) c5))):=af ((((hO2.out.nil.trans (((ai.refl [] w2).alloc _).drew.nil)).trans (gW.mono (by intro x hx;exact List.mem_cons_of_mem _ (List.mem_append_left _ hx)))).setCell (.inl (by simp)) _));have hgb:Hid (∀g,(Value.slice a5 (L.1.length+1) c5).ownBlock=some g->(Value.slice ra L.1.length rc).ownBlock=some g\/w.heap.size<=g):=af (fun g hg=>(hg5 g hg).imp id (fun h4=>Nat.le_trans yI.out (Nat.le_trans ((ai.refl [] w2).alloc _).size h4)));replace om:=af om;clear hS5 hg5 gW hqq))
  all_goals
   go_wp2_with fail
   go_ret
   exact zY hms.out om.out hOb.out hgb.out (fun g hg=>.inl hg)
 ·rw[if_neg hok]at hms
  have hb:(k==2)=false:=by simpa using hok
  rw[hb]at cT;unfold aL at cT;change Hid _ at hms;replace cT:=af cT;replace hM1:=af hM1;clear hA h hok hb hsb uy;go_enter Tryz.func441,Tryz.ntmps441
  go_wp2_with fail
  refine cT.out.mono ?_;rintro e w2 ⟨⟨ec,ay,rfl⟩,hO⟩;have q:(ec==0)=false:=by simpa using ay
  have hO2:=af (hM1.out.own.trans hO);change Hid _ at ay;clear hO;go_wp2_with fail
  go_ret
  exact yg hms.out ay.out hO2.out
theorem PL(W0 w:World)(b:Nat)(p:EG)(mv nv:Value)(L:List ByteArray×List ByteArray)(k v:Int)(t:ByteArray)(h:uz W0 w b p mv nv L.1 L.2)(hL:L.2.length<=256):
  Calls Tryz.prog 441 #[.pointer (some ⟨b,0,none⟩),.agg #[.int .i64 3,.int .i64 k,.int .u64 v,.string t]] w (kR (bX L ⟨3,k,v,t⟩) W0 w b mv nv):=by
 have hms:bX L ⟨3,k,v,t⟩=if k=2 then some (L.1,L.2++[t])else none:=by simp[bX,jK]
 generalize bX L ⟨3,k,v,t⟩=R at hms⊢;have hA:=((ai.refl [] w).alloc (.cells #[.int .i64 3,.int .i64 k,.int .u64 v,.string t] 100)).alloc (.cells #[.string ⟨#[]⟩] 9);have hM1:=h.nil' hA;obtain⟨⟨a0,a1,a2,a3⟩,-⟩:=q4 (heap_alloc_new w (.cells #[.int .i64 3,.int .i64 k,.int .u64 v,.string t] 100));obtain⟨⟨d0,d1,d2,d3⟩,-⟩:=q4 (((ai.refl [] (w.alloc (.cells #[.int .i64 3,.int .i64 k,.int .u64 v,.string t] 100))).alloc (.cells #[.string ⟨#[]⟩] 9)).heap (heap_alloc_new w (.cells #[.int .i64 3,.int .i64 k,.int .u64 v,.string t] 100)) (by simp));have hsb:=heap_alloc2_new w (.cells #[.int .i64 3,.int .i64 k,.int .u64 v,.string t] 100) (.cells #[.string ⟨#[]⟩] 9);have cT:=fV ⟨3,k,v,t⟩ (w.heap.size+1) 0 (.string ⟨#[]⟩) _ (cell_of_row _ _ 0 _ _ _ hsb) (frozen_of_row _ _ 0 _ _ hsb);unfold fL at cT;simp only at cT;have hbw:=aj h.row;have uy:=hA.size;by_cases hok:k=2
 ·subst hok
  rw[if_pos rfl]at hms;unfold aL at cT;change Hid _ at hms hA hsb uy;replace cT:=af cT;replace hM1:=af hM1;have hl1:=af (show(L.2.length+[t].length)*16<=140737488355328 by simp only[List.length_singleton];omega);have hl2:=af (show L.2.length+[t].length<=maxLen by unfold maxLen;simp only[List.length_singleton];omega);have hl3:=af (show(L.2++[t]).length=L.2.length+1 by simp);have Xl: ∀g,mv.ownBlock=some g->g<w.heap.size:=fun g hg=>(h.m.block hg).2
  have Xm: ∀g,nv.ownBlock=some g->g<w.heap.size:=fun g hg=>(h.n.block hg).2
  obtain⟨ra,rc,rfl⟩:=h.n.sl;clear h;go_enter Tryz.func441,Tryz.ntmps441
  go_wp2_with fail
  refine cT.out.mono ?_;rintro e w2 ⟨rfl,hSt⟩;have hO2:ai [] w w2:=hA.out.trans' hSt.own (fun x hx=>.inr (by simp at hx;omega));have hM2:uz W0 w2 b p mv (.slice ra L.2.length rc) L.1 L.2:=by
   have hb2:=hM1.out;have hsz1:W0.heap.size<=w.heap.size+1:=by have:=hb2.base;omega
   exact⟨hb2.own.trans' hSt.own (fun x hx=>.inr (by simp at hx;omega)),hSt.own.heap hb2.row (by simp;omega),hb2.base,hb2.m.own hSt.own (fun g hg=>by have:=(Xl g hg);simp;omega),hb2.n.own hSt.own (fun g hg=>by have:=(Xm g hg);simp;omega),hb2.rm,hb2.rn,hb2.ap⟩
  have hs2:=hSt.row _ _ hsb.out;have yI:w.heap.size<=w2.heap.size:=hO2.size;change Hid _ at yI;replace hO2:=af hO2;replace hM2:=af hM2;clear cT hA hM1 hSt hsb uy hbw;go_wp2_with fail
  clear a0 a1 a2 a3 d0 d1 d2 d3;generalize QU:w.heap.size+1=sb at*;change Hid _ at QU;have hD:=hM2.out.nil' ((ai.refl [] w2).drew);obtain⟨p5,_⟩:=hD.cell 6 (u:=.slice ra L.2.length rc) rfl;have x0:w2.drew.cell? ⟨sb,0,none⟩=some (.string t):=cell_of_row _ _ 0 _ _ _ ((ai.refl [] w2).drew.heap hs2 (by simp));have Ih:=hM2.out.nil' (((ai.refl [] w2).alloc (.cells #[.string t] 9)).drew);obtain⟨q5,_⟩:=Ih.cell 6 (u:=.slice ra L.2.length rc) rfl;have x1:((w2.alloc (.cells #[.string t] 9)).drew).cell? ⟨sb,0,none⟩=some (.string t):=cell_of_row _ _ 0 _ _ _ ((((ai.refl [] w2).alloc (.cells #[.string t] 9)).drew).heap hs2 (by simp));have mX:=af ((aA.new (enc:=BM) (T:=9) w2 t 1).nil' ((ai.refl [] _).drew));replace Ih:=af Ih;simp only[BM]at mX;clear hD hs2;go_region_law((go_loud(refine fu rfl (.tmp 59) (.tmp 61) (by rfl) Ba Ih.out.own (by rfl) Ih.out.n (by rfl) mX.out hl1.out hl2.out ?_);intro va w5 hS5 hqq hg5 gW;obtain⟨a5,c5,rfl⟩:=hS5.sl;rw[hl3.out]at hS5 hg5⊢;obtain⟨⟨kC,f5⟩,om⟩:=Ih.out.addN hS5 gW hg5;have hOb:Hid (ai (b::(mv.ownBlock.toList++(Value.slice ra L.2.length rc).ownBlock.toList)) w (w5.setCell ⟨b,6,none⟩ (.slice a5 (L.2.length+1) c5))):=af ((((hO2.out.nil.trans (((ai.refl [] w2).alloc _).drew.nil)).trans (gW.mono (by intro x hx;exact List.mem_cons_of_mem _ (List.mem_append_right _ hx)))).setCell (.inl (by simp)) _));have hgb:Hid (∀g,(Value.slice a5 (L.2.length+1) c5).ownBlock=some g->(Value.slice ra L.2.length rc).ownBlock=some g\/w.heap.size<=g):=af (fun g hg=>(hg5 g hg).imp id (fun h4=>Nat.le_trans yI.out (Nat.le_trans ((ai.refl [] w2).alloc _).size h4)));replace om:=af om;clear hS5 hg5 gW hqq))
  all_goals
   go_wp2_with fail
   go_ret
   exact zY hms.out om.out hOb.out (fun g hg=>.inl hg) hgb.out
 ·rw[if_neg hok]at hms
  have hb:(k==2)=false:=by simpa using hok
  rw[hb]at cT;unfold aL at cT;change Hid _ at hms;replace cT:=af cT;replace hM1:=af hM1;clear hA h hok hb hsb uy;go_enter Tryz.func441,Tryz.ntmps441
  go_wp2_with fail
  refine cT.out.mono ?_;rintro e w2 ⟨⟨ec,ay,rfl⟩,hO⟩;have q:(ec==0)=false:=by simpa using ay
  have hO2:=af (hM1.out.own.trans hO);change Hid _ at ay;clear hO;go_wp2_with fail
  go_ret
  exact yg hms.out ay.out hO2.out
theorem D7(W0 w:World)(b:Nat)(p:EG)(mv nv:Value)(L:List ByteArray×List ByteArray)(f:bG)(h:uz W0 w b p mv nv L.1 L.2)(h1:f.num≠1)(h2:f.num≠2)(h3:f.num≠3)(h4:f.num≠4)(h5:f.num≠5):
  Calls Tryz.prog 441 #[.pointer (some ⟨b,0,none⟩),.agg (fL f).toArray] w (kR (bX L f) W0 w b mv nv):=by
 have ht:jK f=true:=by unfold jK;rw[if_neg (by omega),if_neg h5]
 have hms:bX L f=some L:=by unfold bX;rw[if_pos ht,if_neg h2,if_neg h3]
 generalize bX L f=R at hms⊢;obtain⟨n,k,v,t⟩:=f;simp only at h1 h2 h3 h4 h5;unfold fL;have hA:=((ai.refl [] w).alloc (.cells #[.int .i64 n,.int .i64 k,.int .u64 v,.string t] 100)).alloc (.cells #[.string ⟨#[]⟩] 9);have hM:=af (h.nil' hA);have hO:=af (hA.nil (S:=b::(mv.ownBlock.toList++nv.ownBlock.toList)));obtain⟨⟨a0,a1,a2,a3⟩,-⟩:=q4 (heap_alloc_new w (.cells #[.int .i64 n,.int .i64 k,.int .u64 v,.string t] 100));obtain⟨⟨d0,d1,d2,d3⟩,-⟩:=q4 (((ai.refl [] (w.alloc (.cells #[.int .i64 n,.int .i64 k,.int .u64 v,.string t] 100))).alloc (.cells #[.string ⟨#[]⟩] 9)).heap (heap_alloc_new w (.cells #[.int .i64 n,.int .i64 k,.int .u64 v,.string t] 100)) (by simp));have q1:(n==1)=false:=by simpa using h1
 have q2:(n==2)=false:=by simpa using h2
 have q3:(n==3)=false:=by simpa using h3
 have q4:(n==4)=false:=by simpa using h4
 have q5:(n==5)=false:=by simpa using h5
 change Hid _ at hms;clear h hA h1 h2 h3 h4 h5;go_enter Tryz.func441,Tryz.ntmps441
 go_wp2_with fail
 go_ret
 exact zY hms.out hM.out hO.out (fun g hg=>.inl hg) (fun g hg=>.inl hg)
theorem GQ(W0 w:World)(b:Nat)(p:EG)(mv nv:Value)(L:List ByteArray×List ByteArray)(f:bG)(h:uz W0 w b p mv nv L.1 L.2)(hL1:L.1.length<=256)(hL2:L.2.length<=256):
  Calls Tryz.prog 441 #[.pointer (some ⟨b,0,none⟩),.agg (fL f).toArray] w (kR (bX L f) W0 w b mv nv):=by
 by_cases h1:f.num=1
 ·obtain⟨n,k,v,t⟩:=f
  simp only at h1;subst h1;exact PE W0 w b p mv nv L k v t h
 by_cases h2:f.num=2
 ·obtain⟨n,k,v,t⟩:=f
  simp only at h2;subst h2;exact PK W0 w b p mv nv L k v t h hL1
 by_cases h3:f.num=3
 ·obtain⟨n,k,v,t⟩:=f
  simp only at h3;subst h3;exact PL W0 w b p mv nv L k v t h hL2
 by_cases h4:f.num=4
 ·obtain⟨n,k,v,t⟩:=f
  simp only at h4;subst h4;exact PG W0 w b p mv nv L k v t h
 by_cases h5:f.num=5
 ·obtain⟨n,k,v,t⟩:=f
  simp only at h5;subst h5;exact PI W0 w b p mv nv L k v t h
 exact D7 W0 w b p mv nv L f h h1 h2 h3 h4 h5
end Go.Proofs.YtedcakchekaemaaGreatDoor
