/- Contracts of the program, part 17. -/
import Derived.Test.YtedcakchekaemaaGreatDoorMp16
import Derived.Test.YtedcakchekaemaaGreatDoorMp15
set_option maxRecDepth 100000
set_option maxHeartbeats 16000000
set_option linter.all false
namespace Go.Proofs.YtedcakchekaemaaGreatDoor
open Go.RowKit
def fG(s:EN)(dn:ByteArray)(p:iI):Int:=
 if s.online=false then 5 else if jH bS.name s.dev dn=false then 5 else if(s.dev[cu bS.name s.dev dn]?).any (·.on)=false then 5
 else if iU s p=false then 4 else 1
def Fp(s:EN)(dn:ByteArray)(p:iI)(L:EW)(w:World)(e:Ending)(w':World):Prop:=
 ∃q,e=.returned (.tuple #[.pointer q,.int .i64 (fG s dn p)])/\ai [] w w'/\(fG s dn p=1-> ∃d x,L.ds[cu bS.name s.dev dn]?=some d/\s.dev[cu bS.name s.dev dn]?=some x/\x.on=true/\x.name=dn/\q=some ⟨d.blk,0,none⟩)
theorem zG(n:Nat)(g nm:ByteArray)(L:EW)(s:EN)(dn:ByteArray)(p:iI)(w:World)(h:au w n g nm L s)(hr:dP bS.name s.dev)(h0:0<=p.s):
  Calls Tryz.prog 273 #[.pointer (some ⟨n,0,none⟩),.string dn,p.val] w (Fp s dn p L w):=by
 have hW0:=dS w p;have hP:=fun W (ho:ai [] (eG w p) W)=>bH w p (S:=[]) (by simp) W ho
 have hC:=fun W (ho:ai [] w W)=>aR h (S:=[]) (by simp) W ho
 have yC:=Bq n g nm L s dn (eG w p) (h.nil' hW0) hr;have cF:=fun W (ho:ai [] w W)=>wU n g nm L s p W (h.nil' ho) h0
 have hlen:=h.len;have hl4:s.dev.length<=4:=h.few.2.2;have hD:=fun W d (hi:L.ds[cu bS.name s.dev dn]?=some d) (ho:ai [] w W)=>yw (h.nil' ho) hi
 have OT:=fun W d x (hi:L.ds[cu bS.name s.dev dn]?=some d) (hx:s.dev[cu bS.name s.dev dn]?=some x) (ho:ai [] w W)=>Eu d x W ((h.nil' ho).devs _ d x hi hx)
 unfold Fp;have hv:p.val=.agg #[.int .u64 p.t,.bool p.h,.int .u64 p.s,.string p.u,.string p.b,.slice p.a p.M.length p.c]:=rfl;rw[hv]at cF⊢;simp only[eG]at hW0 hP yC;obtain⟨da,dc,hdv⟩:=h.dvs.sl;rw[hdv]at hC;obtain⟨⟨k2,k3,k4,k5,k6,k7,k8⟩,_⟩:=hC _ hW0;cases hhas:jH bS.name s.dev dn with
 |false=>
  have hc:fG s dn p=5:=by unfold fG;rw[hhas];split<;>simp
  rw[hc];rw[hhas]at yC;generalize cu bS.name s.dev dn=pos at*;have oh:=af hW0;change Hid _ at hP hdv hlen;replace yC:=af yC;clear hW0 hv hr h0 hD OT h hhas;cases hon:s.online with
  |false=>
   rw[hon]at hC;change Hid _ at hC;clear cF hon;go_enter Tryz.func273,Tryz.ntmps273
   go_wp2_with(go_at_call 270;(with_reducible refine yC.out.mono ?_);rintro e w2 ⟨rfl,hO2⟩;have hX2:=oh.out.trans hO2;obtain⟨⟨l2,l3,l4,l5,l6,l7,l8⟩,_⟩:=hC.out _ hX2;obtain⟨r0,r1,r2,r3,r4,r5⟩:=hP.out _ hO2;replace hX2:=af hX2)
   go_ret2
   exact⟨_,rfl,hX2.out,fun h=>absurd h (by decide)⟩
  |true=>
   rw[hon]at hC;change Hid _ at hC;clear cF hon;go_enter Tryz.func273,Tryz.ntmps273
   go_wp2_with(go_at_call 270;(with_reducible refine yC.out.mono ?_);rintro e w2 ⟨rfl,hO2⟩;have hX2:=oh.out.trans hO2;obtain⟨⟨l2,l3,l4,l5,l6,l7,l8⟩,_⟩:=hC.out _ hX2;obtain⟨r0,r1,r2,r3,r4,r5⟩:=hP.out _ hO2;replace hX2:=af hX2)
   go_ret2
   exact⟨_,rfl,hX2.out,fun h=>absurd h (by decide)⟩
 |true=>
  obtain⟨x,hx,hn⟩:=oN hhas;have hi:cu bS.name s.dev dn<L.ds.length:=by rw[<-hlen];exact(List.getElem?_eq_some_iff.1 hx).1
  obtain⟨d,hd⟩: ∃d,L.ds[cu bS.name s.dev dn]?=some d:=⟨_,List.getElem?_eq_getElem hi⟩;replace hD:=fun W ho=>hD W d hd ho
  replace OT:=fun W ho=>OT W d x hd hx ho
  obtain⟨gb,cp,AA,_⟩:=hD _ hW0;rw[AA]at hdv;cases hdv;replace hD:=fun(W:World) (ho:ai [] w W)=>(hD W ho: ∃gb cp,L.dv=.slice (some ⟨gb,0,none⟩) L.ds.length cp/\W.cell? ⟨gb,cu bS.name s.dev dn,none⟩=some (.pointer (some ⟨d.blk,0,none⟩)))
  have hD2:=fun(W:World) (ho:ai [] w W)=>(show W.cell? ⟨gb,cu bS.name s.dev dn,none⟩=some (.pointer (some ⟨d.blk,0,none⟩))by
   obtain⟨g2,c2,e2,hc2⟩:=hD W ho;rw[AA]at e2;cases e2;exact hc2)
  have aiV:L.ds.length<=4:=by omega
  rw[hhas]at yC;have hc1:s.online=false->fG s dn p=5:=fun h=>by unfold fG;rw[if_pos h]
  have hc2:s.online=true->x.on=false->fG s dn p=5:=fun h h2=>by unfold fG;rw[if_neg (by simp[h]),if_neg (by simp[hhas]),if_pos (by rw[hx];simpa using h2)]
  have hc3:s.online=true->x.on=true->iU s p=false->fG s dn p=4:=fun h h2 h3=>by unfold fG;rw[if_neg (by simp[h]),if_neg (by simp[hhas]),if_neg (by rw[hx];simp[h2]),if_pos h3]
  have hc4:s.online=true->x.on=true->iU s p=true->fG s dn p=1:=fun h h2 h3=>by unfold fG;rw[if_neg (by simp[h]),if_neg (by simp[hhas]),if_neg (by rw[hx];simp[h2]),if_neg (by simp[h3])]
  generalize fG s dn p=lv at*;generalize cu bS.name s.dev dn=pos at*;have oh:=af hW0;change Hid _ at hP AA hlen hD2 hd hx hn;replace yC:=af yC;generalize L.ds.length=N at*;clear hW0 hv hr h0 hD h hhas hl4;cases hon:s.online with
  |false=>
   obtain rfl:=hc1 hon;rw[hon]at hC;change Hid _ at hC;clear cF hon OT hc1 hc2 hc3 hc4;go_enter Tryz.func273,Tryz.ntmps273
   go_wp2_with(go_at_call 270;(with_reducible refine yC.out.mono ?_);rintro e w2 ⟨rfl,hO2⟩;have hX2:=oh.out.trans hO2;obtain⟨⟨l2,l3,l4,l5,l6,l7,l8⟩,_⟩:=hC.out _ hX2;obtain⟨r0,r1,r2,r3,r4,r5⟩:=hP.out _ hO2;replace hX2:=af hX2)
   go_ret2
   exact⟨_,rfl,hX2.out,fun h=>absurd h (by decide)⟩
  |true=>
   rw[hon]at hC;change Hid _ at hC;rcases Bool.eq_false_or_eq_true x.on with hxo|hxo
   rotate_left
   ·
    obtain rfl:=hc2 hon hxo;rw[hxo]at OT;change Hid _ at OT;clear cF hxo hon hc1 hc2 hc3 hc4;go_enter Tryz.func273,Tryz.ntmps273
    go_wp2_with(first
     |(go_at_call 270;(with_reducible refine yC.out.mono ?_);rintro e w2 ⟨rfl,hO2⟩;have hX2:=oh.out.trans hO2;obtain⟨⟨l2,l3,l4,l5,l6,l7,l8⟩,_⟩:=hC.out _ hX2;obtain⟨r0,r1,r2,r3,r4,r5⟩:=hP.out _ hO2;have hcl:=hD2.out _ hX2;have cN2:=af (OT.out _ hX2);replace hX2:=af hX2)
     |(go_at_call 311;(with_reducible refine cN2.out.mono ?_);rintro e w3 ⟨rfl,rfl⟩))
    go_ret2
    exact⟨_,rfl,hX2.out,fun h=>absurd h (by decide)⟩
   ·
    rw[hxo]at OT;change Hid _ at OT;cases hft:iU s p with
    |false=>
     obtain rfl:=hc3 hon hxo hft;rw[hft]at cF;change Hid _ at cF;clear hft hxo hon hc1 hc2 hc3 hc4;go_enter Tryz.func273,Tryz.ntmps273
     go_wp2_with(first
      |(go_at_call 270;(with_reducible refine yC.out.mono ?_);rintro e w2 ⟨rfl,hO2⟩;have hX2:=oh.out.trans hO2;obtain⟨⟨l2,l3,l4,l5,l6,l7,l8⟩,_⟩:=hC.out _ hX2;obtain⟨r0,r1,r2,r3,r4,r5⟩:=hP.out _ hO2;have hcl:=hD2.out _ hX2;have cN2:=af (OT.out _ hX2);have Dx:=af (cF.out _ hX2);replace hX2:=af hX2)
      |(go_at_call 311;(with_reducible refine cN2.out.mono ?_);rintro e w3 ⟨rfl,rfl⟩)
      |(go_at_call 267;(with_reducible refine Dx.out.mono ?_);rintro e w3 ⟨rfl,hO3⟩;have fC:=af (hX2.out.trans hO3)))
     go_ret2
     exact⟨_,rfl,fC.out,fun h=>absurd h (by decide)⟩
    |true=>
     obtain rfl:=hc4 hon hxo hft;rw[hft]at cF;change Hid _ at cF hxo;clear hft hon hc1 hc2 hc3 hc4;go_enter Tryz.func273,Tryz.ntmps273
     go_wp2_with(first
      |(go_at_call 270;(with_reducible refine yC.out.mono ?_);rintro e w2 ⟨rfl,hO2⟩;have hX2:=oh.out.trans hO2;obtain⟨⟨l2,l3,l4,l5,l6,l7,l8⟩,_⟩:=hC.out _ hX2;obtain⟨r0,r1,r2,r3,r4,r5⟩:=hP.out _ hO2;have hcl:=hD2.out _ hX2;have cN2:=af (OT.out _ hX2);have Dx:=af (cF.out _ hX2);replace hX2:=af hX2)
      |(go_at_call 311;(with_reducible refine cN2.out.mono ?_);rintro e w3 ⟨rfl,rfl⟩)
      |(go_at_call 267;(with_reducible refine Dx.out.mono ?_);rintro e w3 ⟨rfl,hO3⟩;have fC:=hX2.out.trans hO3;obtain⟨⟨m2,m3,m4,m5,m6,m7,m8⟩,_⟩:=hC.out _ fC;have hcm:=hD2.out _ fC;replace fC:=af fC))
     go_ret2
     exact⟨_,rfl,fC.out,fun _=>⟨d,x,hd.out,hx.out,hxo.out,hn.out,rfl⟩⟩
end Go.Proofs.YtedcakchekaemaaGreatDoor
namespace Go.Proofs.YtedcakchekaemaaGreatDoor
open Go.RowKit
def IY(D:List bS)(dn:ByteArray)(l:List bJ):List bS:=if jH bS.name D dn=true then D.set (cu bS.name D dn) ⟨dn,true,l⟩else D.take (cu bS.name D dn)++[⟨dn,true,l⟩]++D.drop (cu bS.name D dn)
def kZ(s:EN)(dn:ByteArray)(p:iI):Int×EN:=
 if s.online=false then(5,s)else if iU s p=false then(4,s)else if dn.toList.isEmpty=true then(7,s)
 else if jH bS.name s.dev dn=false/\4<=s.dev.length then(8,s)
 else if(dB p.M).1≠1 then((dB p.M).1,s)
 else if jA (uD s.al dn (dB p.M).2).1≠1 then(jA (uD s.al dn (dB p.M).2).1,s)
 else(1,{s with al:=(pO s.al dn (dB p.M).2).2,dev:=IY s.dev dn (dB p.M).2,want:=(p.seq.1+1)%256})
theorem Rt(n:Nat)(g nm:ByteArray)(L:EW)(s:EN)(dn:ByteArray)(a:Option Addr)(l:List bJ)(c:Nat)(w:World)(h:au w n g nm L s)(hr:dP bS.name s.dev)(hdn:dn.toList.isEmpty=false)(h4: ¬(jH bS.name s.dev dn=false/\4<=s.dev.length))(hA:bB w a l)(hl:l.length<=32)
  (UH: ∀b,a.map (·.block)=some b->b∉L.feet n)(hal: ∀b,a.map (·.block)=some b->b<w.heap.size):
  Calls Tryz.prog 272 #[.pointer (some ⟨n,0,none⟩),.int .i64 (cu bS.name s.dev dn),.bool (jH bS.name s.dev dn),.string dn,.slice a l.length c] w (dQ n g nm L (1,{s with al:=(pO s.al dn l).2,dev:=IY s.dev dn l}) w):=by
 have hle:=CG (key:=bS.name) s.dev dn;have hlen:=h.len;unfold IY;cases hh:jH bS.name s.dev dn with
 |true=>
  obtain⟨x,hx,hn⟩:=oN hh;have hi:cu bS.name s.dev dn<L.ds.length:=by rw[<-hlen];exact(List.getElem?_eq_some_iff.1 hx).1
  have:=Rs n g nm L s _ _ x dn a l c w h (List.getElem?_eq_getElem hi) hx hA hl UH;rw[hn]at this;simpa using this
 |false=>
  have:=Wh n g nm L s (cu bS.name s.dev dn) dn a l c w h (by omega) (by rw[hh]at h4;simp at h4;omega) hdn hA hl UH hal;simpa using this
theorem IZ(n:Nat)(g nm:ByteArray)(L:EW)(s:EN)(dn:ByteArray)(p:iI)(w:World)(h:au w n g nm L s)(hr:dP bS.name s.dev)(hM:eF w p.a p.M)(h0:0<=p.s)(hE:jP w):
  Calls Tryz.prog 217 #[.pointer (some ⟨n,0,none⟩),.string dn,p.val] w (dQ n g nm L (kZ s dn p) w):=by
 have hW0:=dS w p;have hP:=fun W (ho:ai [] (eG w p) W)=>bH w p (S:=[]) (by simp) W ho
 have Gy:=fun W (ho:ai (L.feet n) (eG w p) W)=>bH w p (S:=L.feet n) (fun hx=>Nat.lt_irrefl _ (h.lt _ hx)) W ho
 have hC:=fun W (ho:ai [] w W)=>aR h (S:=[]) (by simp) W ho
 have hsame:=fun W (ho:ai [] w W)=>h.same ho
 have yC:=Bq n g nm L s dn (eG w p) (h.nil' hW0) hr;have cF:=fun W (ho:ai [] w W)=>wU n g nm L s p W (h.nil' ho) h0
 have cB:=fun W (ho:ai [] w W)=>Ba p.a p.M p.c W (hM.nil' ho) (hE.nil ho)
 have hbl:(dB p.M).2.length<=32:=Ej p.M;have cT:=fun W a cap (ho:ai [] w W) (hA:bB W a (dB p.M).2)=>Vz L.tb L.tm s.al dn a (dB p.M).2.length cap (dU (dB p.M).2) W ((h.nil' ho).tab) (pR hA) (by have:=h.few.2.1;omega)
 have hI: ∀W W' a cap,ai [] w W->aM W.heap.size W' a cap (dB p.M).2->bB W' a (dB p.M).2/\((∀b,a.map (·.block)=some b->b∉L.feet n)/\ ∀b,a.map (·.block)=some b->b<W'.heap.size):=fun W W' a cap ho hR=>
  ⟨hR.at_ (by omega),fun b hb hx=>by have:=h.lt b hx;have:=(oM hR b hb).1;have:=ho.size;omega,fun b hb=>hR.blt hb⟩
 have UK:=fun W a cap (ho:ai [] w W) (hA:bB W a (dB p.M).2) (hf:(∀b,a.map (·.block)=some b->b∉L.feet n)/\ ∀b,a.map (·.block)=some b->b<W.heap.size) (hdn:dn.toList.isEmpty=false) (h4: ¬(jH bS.name s.dev dn=false/\4<=s.dev.length))=>Rt n g nm L s dn a (dB p.M).2 cap W (h.nil' ho) hr hdn h4 hA hbl hf.1 hf.2
 have cK0:=fun W L' (s':EN) (hk:au W n g nm L' s') (hf:iU s' p=true)=>sN n g nm L' s' p W hk h0 hf
 have hfe: ∀W (L':EW),ai [] w W->(∀y∈L'.feet n,y∈L.feet n\/W.heap.size<=y)->(∀y∈L'.feet n,y∈L.feet n\/w.heap.size<=y):=fun W L' ho hf y hy=>by
  rcases hf y hy with h1|h1
  ·exact .inl h1
  ·exact .inr (Nat.le_trans ho.size h1)
 simp only[nE]at cT;obtain⟨da,dc,hdv⟩:=h.dvs.sl;rw[hdv]at hC;have hlen:=h.len;have hl4:s.dev.length<=4:=h.few.2.2;unfold dQ at UK;unfold lD at cB;unfold dQ kZ;have hv:p.val=.agg #[.int .u64 p.t,.bool p.h,.int .u64 p.s,.string p.u,.string p.b,.slice p.a p.M.length p.c]:=rfl;rw[hv]at cF cK0⊢;simp only[eG]at hW0 hP Gy yC;obtain⟨⟨k2,k3,k4,k5,k6,k7,k8⟩,_⟩:=hC _ hW0;have hpos:cu bS.name s.dev dn<=s.dev.length:=CG _ _;generalize hhas:jH bS.name s.dev dn=has at*;generalize hps:cu bS.name s.dev dn=pos at*;have hbo:(dB p.M).1≠1\/(dB p.M).1=1:=by omega
 generalize hdd:IY s.dev dn (dB p.M).2=dd at*;generalize hss:(pO s.al dn (dB p.M).2).2=sal at*;generalize hmm:(uD s.al dn (dB p.M).2).1=mm at*;generalize dB p.M=bo at*;obtain⟨bo1,bo2⟩:=bo;simp only at*;change Hid _ at hhas hps hdd hss hmm hlen hdv;have oh:=af hW0;change Hid _ at hP Gy hC hsame cB cT hI hfe;replace yC:=af yC;clear hW0 hv hr hM hE h0;cases hon:s.online with
 |false=>
  rw[if_pos rfl];rw[hon]at hC;change Hid _ at cF;clear cK0 UK hon h;go_enter Tryz.func217,Tryz.ntmps217
  go_wp2_with(first
   |(go_at_call 270;(with_reducible refine yC.out.mono ?_);rintro e w2 ⟨rfl,hO2⟩;have hX2:=oh.out.trans hO2;obtain⟨⟨l2,l3,l4,l5,l6,l7,l8⟩,_⟩:=hC.out _ hX2;obtain⟨r0,r1,r2,r3,r4,r5⟩:=hP.out _ hO2;have Dx:=af (cF.out _ hX2);replace hX2:=af hX2;replace hO2:=af hO2))
  go_ret
  exact⟨rfl,hsame.out _ hX2.out⟩
 |true=>
  rw[if_neg (by simp)];rw[hon]at hC;cases hft:iU s p with
  |false=>
   rw[if_pos rfl];simp only[hft]at cF;change Hid _ at cF;clear cK0 UK hon hft h;go_enter Tryz.func217,Tryz.ntmps217
   go_wp2_with(first
    |(go_at_call 270;(with_reducible refine yC.out.mono ?_);rintro e w2 ⟨rfl,hO2⟩;have hX2:=oh.out.trans hO2;obtain⟨⟨l2,l3,l4,l5,l6,l7,l8⟩,_⟩:=hC.out _ hX2;obtain⟨r0,r1,r2,r3,r4,r5⟩:=hP.out _ hO2;have Dx:=af (cF.out _ hX2);replace hX2:=af hX2;replace hO2:=af hO2)
    |(go_at_call 267;(with_reducible refine Dx.out.mono ?_);rintro e w3 ⟨rfl,hO3⟩;have fC:=hX2.out.trans hO3;have dO:=hO2.out.trans hO3;obtain⟨⟨m2,m3,m4,m5,m6,m7,m8⟩,_⟩:=hC.out _ fC;obtain⟨t0,t1,t2,t3,t4,t5⟩:=hP.out _ dO;have cB3:=af (cB.out _ fC);replace fC:=af fC;replace dO:=af dO))
   go_ret
   exact⟨rfl,hsame.out _ fC.out⟩
  |true=>
   rw[if_neg (by simp)];simp only[hft]at cF;change Hid _ at cF;cases hdn:dn.toList.isEmpty with
   |true=>
    rw[if_pos rfl];have adf:dn.toList=[]:=by simpa using hdn
    have afR:(dn.toList==[])=true:=by rw[adf];rfl
    clear cK0 UK hon hft h adf;go_enter Tryz.func217,Tryz.ntmps217
    go_wp2_with(first
     |(go_at_call 270;(with_reducible refine yC.out.mono ?_);rintro e w2 ⟨rfl,hO2⟩;have hX2:=oh.out.trans hO2;obtain⟨⟨l2,l3,l4,l5,l6,l7,l8⟩,_⟩:=hC.out _ hX2;obtain⟨r0,r1,r2,r3,r4,r5⟩:=hP.out _ hO2;have Dx:=af (cF.out _ hX2);replace hX2:=af hX2;replace hO2:=af hO2)
     |(go_at_call 267;(with_reducible refine Dx.out.mono ?_);rintro e w3 ⟨rfl,hO3⟩;have fC:=hX2.out.trans hO3;have dO:=hO2.out.trans hO3;obtain⟨⟨m2,m3,m4,m5,m6,m7,m8⟩,_⟩:=hC.out _ fC;obtain⟨t0,t1,t2,t3,t4,t5⟩:=hP.out _ dO;have cB3:=af (cB.out _ fC);replace fC:=af fC;replace dO:=af dO))
    go_ret
    exact⟨rfl,hsame.out _ fC.out⟩
   |false=>
    rw[if_neg (by simp)];have afR:(dn.toList==[])=false:=by cases hq:dn.toList with|nil=>rw[hq]at hdn;cases hdn|cons=>rfl
    by_cases h4:has=false/\4<=s.dev.length
    ·rw[if_pos h4]
     obtain⟨rfl,h4⟩:=h4;have h5:4<=L.ds.length:=by rw[<-hlen.out];exact h4
     have h6:(4:Int)<=(L.ds.length:Int):=by omega
     clear cK0 UK hon hft h hdn h4 hl4;go_enter Tryz.func217,Tryz.ntmps217
     go_wp2_with(first
      |(go_at_call 270;(with_reducible refine yC.out.mono ?_);rintro e w2 ⟨rfl,hO2⟩;have hX2:=oh.out.trans hO2;obtain⟨⟨l2,l3,l4,l5,l6,l7,l8⟩,_⟩:=hC.out _ hX2;obtain⟨r0,r1,r2,r3,r4,r5⟩:=hP.out _ hO2;have Dx:=af (cF.out _ hX2);replace hX2:=af hX2;replace hO2:=af hO2)
      |(go_at_call 267;(with_reducible refine Dx.out.mono ?_);rintro e w3 ⟨rfl,hO3⟩;have fC:=hX2.out.trans hO3;have dO:=hO2.out.trans hO3;obtain⟨⟨m2,m3,m4,m5,m6,m7,m8⟩,_⟩:=hC.out _ fC;obtain⟨t0,t1,t2,t3,t4,t5⟩:=hP.out _ dO;have cB3:=af (cB.out _ fC);replace fC:=af fC;replace dO:=af dO))
     go_ret
     exact⟨rfl,hsame.out _ fC.out⟩
    ·rw[if_neg h4]
     replace UK:=fun W a cap ho hA hf=>UK W a cap ho hA hf hdn h4
     have hbr:has=true\/(has=false/\decide ((4:Int)<=(L.ds.length:Int))=false):=by
      rw[hlen.out]at h4;cases has
      ·simp at h4
       exact .inr ⟨rfl,by simp;omega⟩
      ·exact .inl rfl
     have cK1:=af fun W L' hk=>cK0 W L' {s with al:=sal,dev:=dd} hk (show iU {s with al:=sal,dev:=dd} p=true from hft)
     have hln:n∈L.feet n:=by unfold EW.feet;simp
     have hrb: ∀(L':EW),L'.rb∈L'.feet n:=fun L'=>by unfold EW.feet;simp
     change Hid _ at UK hrb;have JY:=af hon;clear h4 cK0 hon hft h hdn hl4 k2 k3 k4 k5 k6 k7 k8;by_cases hb1:bo1=1
     ·subst hb1
      rw[if_neg (by simp)];by_cases hc1:jA mm=1
      ·rw[if_neg (by simpa using hc1)]
       have hc2:(jA mm !=1)=false:=by simpa using hc1
       clear hc1;rcases hbr with rfl|⟨rfl,h6⟩
       all_goals
        go_enter Tryz.func217,Tryz.ntmps217
        go_wp2_with(first
         |(go_at_call 270;(with_reducible refine yC.out.mono ?_);rintro e w2 ⟨rfl,hO2⟩;have hX2:=oh.out.trans hO2;obtain⟨⟨l2,l3,l4,l5,l6,l7,l8⟩,_⟩:=hC.out _ hX2;obtain⟨r0,r1,r2,r3,r4,r5⟩:=hP.out _ hO2;have Dx:=af (cF.out _ hX2);replace hX2:=af hX2;replace hO2:=af hO2)
         |(go_at_call 267;(with_reducible refine Dx.out.mono ?_);rintro e w3 ⟨rfl,hO3⟩;have fC:=hX2.out.trans hO3;have dO:=hO2.out.trans hO3;obtain⟨⟨m2,m3,m4,m5,m6,m7,m8⟩,_⟩:=hC.out _ fC;obtain⟨t0,t1,t2,t3,t4,t5⟩:=hP.out _ dO;have cB3:=af (cB.out _ fC);replace fC:=af fC;replace dO:=af dO)
         |(go_at_call 260;(with_reducible refine cB3.out.mono ?_);rintro e w4 ⟨a,cap,rfl,qA,hO4⟩;have qC:=fC.out.trans hO4;have kJ:=dO.out.trans hO4;obtain⟨⟨z2,z3,z4,z5,z6,z7,z8⟩,_⟩:=hC.out _ qC;obtain⟨sZ,Dy⟩:=hI.out _ _ _ _ fC.out qA;have cT4:=af (cT.out _ _ cap qC sZ);replace sZ:=af sZ;replace Dy:=af Dy;replace qC:=af qC;replace kJ:=af kJ;clear qA hO4)
         |(go_at_call 271;(with_reducible refine cT4.out.mono ?_);rintro e w5 ⟨rfl,aF⟩;have iD:=qC.out.trans aF;have Dn:=kJ.out.trans aF;have adg:=af (UK.out _ _ cap iD (sZ.out.nil' aF) ⟨Dy.out.1,fun b hb=>Nat.lt_of_lt_of_le (Dy.out.2 b hb) aF.size⟩);replace iD:=af iD;replace Dn:=af Dn;clear aF)
         |(go_at_call 261;(with_reducible refine(sO _ _).mono ?_);rintro e w6 ⟨rfl,rfl⟩)
         |(go_at_call 272;(with_reducible refine adg.out.mono ?_);rintro e w7 ⟨rfl,L7,Yn,eU,hf7⟩;obtain⟨u0,u1,u2,u3,u4,u5⟩:=Gy.out _ (Dn.out.nil.trans eU);have cK7:=af (cK1.out _ _ Yn);replace Yn:=af Yn;replace eU:=af eU;replace hf7:=af hf7)
         |(go_at_call 269;(with_reducible refine cK7.out.mono ?_);rintro e w8 ⟨rfl,Yo,gV⟩;replace Yo:=af Yo;replace gV:=af gV))
        go_ret
        have hE9:=Yo.out;rw[JY.out]at hE9;refine⟨rfl,nH (iD.out.nil.trans eU.out) (hfe.out _ _ iD.out hf7.out) ⟨L7,hE9,gV.out.mono (fun y hy=>by simp at hy;subst hy;exact hrb.out L7),fun y hy=>.inl hy⟩⟩
      ·rw[if_pos (by simpa using hc1)]
       have hc2:(jA mm !=1)=true:=by simpa using hc1
       clear hc1;rcases hbr with rfl|⟨rfl,h6⟩
       all_goals
        go_enter Tryz.func217,Tryz.ntmps217
        go_wp2_with(first
         |(go_at_call 270;(with_reducible refine yC.out.mono ?_);rintro e w2 ⟨rfl,hO2⟩;have hX2:=oh.out.trans hO2;obtain⟨⟨l2,l3,l4,l5,l6,l7,l8⟩,_⟩:=hC.out _ hX2;obtain⟨r0,r1,r2,r3,r4,r5⟩:=hP.out _ hO2;have Dx:=af (cF.out _ hX2);replace hX2:=af hX2;replace hO2:=af hO2)
         |(go_at_call 267;(with_reducible refine Dx.out.mono ?_);rintro e w3 ⟨rfl,hO3⟩;have fC:=hX2.out.trans hO3;have dO:=hO2.out.trans hO3;obtain⟨⟨m2,m3,m4,m5,m6,m7,m8⟩,_⟩:=hC.out _ fC;obtain⟨t0,t1,t2,t3,t4,t5⟩:=hP.out _ dO;have cB3:=af (cB.out _ fC);replace fC:=af fC;replace dO:=af dO)
         |(go_at_call 260;(with_reducible refine cB3.out.mono ?_);rintro e w4 ⟨a,cap,rfl,qA,hO4⟩;have qC:=fC.out.trans hO4;have kJ:=dO.out.trans hO4;obtain⟨⟨z2,z3,z4,z5,z6,z7,z8⟩,_⟩:=hC.out _ qC;obtain⟨sZ,Dy⟩:=hI.out _ _ _ _ fC.out qA;have cT4:=af (cT.out _ _ cap qC sZ);replace sZ:=af sZ;replace Dy:=af Dy;replace qC:=af qC;replace kJ:=af kJ;clear qA hO4)
         |(go_at_call 271;(with_reducible refine cT4.out.mono ?_);rintro e w5 ⟨rfl,aF⟩;have iD:=qC.out.trans aF;have Dn:=kJ.out.trans aF;have adg:=af (UK.out _ _ cap iD (sZ.out.nil' aF) ⟨Dy.out.1,fun b hb=>Nat.lt_of_lt_of_le (Dy.out.2 b hb) aF.size⟩);replace iD:=af iD;replace Dn:=af Dn;clear aF)
         |(go_at_call 261;(with_reducible refine(sO _ _).mono ?_);rintro e w6 ⟨rfl,rfl⟩))
        go_ret
        exact⟨rfl,hsame.out _ iD.out⟩
     ·rw[if_pos hb1]
      have hb2:(bo1 !=1)=true:=by simpa using hb1
      clear hb1;rcases hbr with rfl|⟨rfl,h6⟩
      all_goals
       go_enter Tryz.func217,Tryz.ntmps217
       go_wp2_with(first
        |(go_at_call 270;(with_reducible refine yC.out.mono ?_);rintro e w2 ⟨rfl,hO2⟩;have hX2:=oh.out.trans hO2;obtain⟨⟨l2,l3,l4,l5,l6,l7,l8⟩,_⟩:=hC.out _ hX2;obtain⟨r0,r1,r2,r3,r4,r5⟩:=hP.out _ hO2;have Dx:=af (cF.out _ hX2);replace hX2:=af hX2;replace hO2:=af hO2)
        |(go_at_call 267;(with_reducible refine Dx.out.mono ?_);rintro e w3 ⟨rfl,hO3⟩;have fC:=hX2.out.trans hO3;have dO:=hO2.out.trans hO3;obtain⟨⟨m2,m3,m4,m5,m6,m7,m8⟩,_⟩:=hC.out _ fC;obtain⟨t0,t1,t2,t3,t4,t5⟩:=hP.out _ dO;have cB3:=af (cB.out _ fC);replace fC:=af fC;replace dO:=af dO)
        |(go_at_call 260;(with_reducible refine cB3.out.mono ?_);rintro e w4 ⟨a,cap,rfl,qA,hO4⟩;have qC:=fC.out.trans hO4;have kJ:=dO.out.trans hO4;obtain⟨⟨z2,z3,z4,z5,z6,z7,z8⟩,_⟩:=hC.out _ qC;obtain⟨sZ,Dy⟩:=hI.out _ _ _ _ fC.out qA;have cT4:=af (cT.out _ _ cap qC sZ);replace sZ:=af sZ;replace Dy:=af Dy;replace qC:=af qC;replace kJ:=af kJ;clear qA hO4))
       go_ret
       exact⟨rfl,hsame.out _ qC.out⟩
end Go.Proofs.YtedcakchekaemaaGreatDoor
namespace Go.Proofs.YtedcakchekaemaaGreatDoor
open Go.RowKit
def qf(s:EN)(dn:ByteArray)(p:iI):Int×EN:=
 if fG s dn p≠1 then(fG s dn p,s)else match s.dev[cu bS.name s.dev dn]? with
 |none=>(5,s)
 |some x=>if(fZ (gK s.al dn) p.M x.items).1≠1 then((fZ (gK s.al dn) p.M x.items).1,s)
  else(1,{s with dev:=s.dev.set (cu bS.name s.dev dn) ⟨x.name,true,(fZ (gK s.al dn) p.M x.items).2⟩,want:=(p.seq.1+1)%256})
def lg(s:EN)(dn:ByteArray)(p:iI):Int×EN:=
 if fG s dn p≠1 then(fG s dn p,s)else match s.dev[cu bS.name s.dev dn]? with
 |none=>(5,s)
 |some x=>(1,{s with al:=aJ s.al dn,dev:=s.dev.set (cu bS.name s.dev dn) ⟨x.name,false,x.items⟩,want:=(p.seq.1+1)%256})
theorem lG{s:EN}{dn:ByteArray}{p:iI}(h:fG s dn p=1):s.online=true/\jH bS.name s.dev dn=true/\(∃x,s.dev[cu bS.name s.dev dn]?=some x/\x.on=true/\x.name=dn)/\iU s p=true:=by
 unfold fG at h;split at h
 ·cases h
 ·rename_i h1
  split at h
  ·cases h
  ·rename_i h2
   split at h
   ·cases h
   ·rename_i h3
    split at h
    ·cases h
    ·rename_i h4
     have h2':jH bS.name s.dev dn=true:=by simpa using h2
     obtain⟨x,hx,hn⟩:=oN h2';rw[hx]at h3;exact⟨by simpa using h1,h2',⟨x,hx,by simpa using h3,hn⟩,by simpa using h4⟩
theorem zH{n:Nat}{g nm:ByteArray}{L:EW}{s:EN}{dn:ByteArray}{p:iI}{w:World}(h:au w n g nm L s)(hr:dP bS.name s.dev)(h0:0<=p.s)(h1:fG s dn p=1){d:DW}(hd:L.ds[cu bS.name s.dev dn]?=some d):
  Calls Tryz.prog 273 #[.pointer (some ⟨n,0,none⟩),.string dn,p.val] w fun e w'=>e=.returned (.tuple #[.pointer (some ⟨d.blk,0,none⟩),.int .i64 1])/\ai [] w w':=
 (zG n g nm L s dn p w h hr h0).mono (by
  rintro e w' ⟨q,rfl,hO,hq⟩;obtain⟨d',x,hd',_,_,_,rfl⟩:=hq h1;rw[hd]at hd';cases hd';exact⟨by rw[h1],hO⟩)
theorem zI{n:Nat}{g nm:ByteArray}{L:EW}{s:EN}{dn:ByteArray}{p:iI}{w:World}(h:au w n g nm L s)(hr:dP bS.name s.dev)(h0:0<=p.s):
  Calls Tryz.prog 273 #[.pointer (some ⟨n,0,none⟩),.string dn,p.val] w fun e w'=> ∃q,e=.returned (.tuple #[.pointer q,.int .i64 (fG s dn p)])/\ai [] w w':=
 (zG n g nm L s dn p w h hr h0).mono (by
  rintro e w' ⟨q,rfl,hO,hq⟩;exact⟨q,rfl,hO⟩)
theorem Ru{W:World}{n:Nat}{g nm:ByteArray}{L:EW}{s:EN}(h:au W n g nm L s){i:Nat}{d:DW}{x:bS}(hi:L.ds[i]?=some d)(hx:s.dev[i]?=some x)(hon:x.on=true)(a:Option Addr)(l:List bJ)(c:Nat)(hA:bB W a l)(hl:l.length<=32):
  Calls Tryz.prog 274 #[.pointer (some ⟨d.blk,0,none⟩),.slice a l.length c] W fun e w'=>e=.returned (.int .i64 0)/\ ∃L',au w' n g nm L' {s with dev:=s.dev.set i ⟨x.name,true,l⟩}/\ai (L.feet n) W w'/\(∀y∈L'.feet n,y∈L.feet n\/W.heap.size<=y):=by
 refine(MR d x a l c W (h.devs i d x hi hx) hon hA hl).mono ?_;rintro e w' ⟨rfl,d',hb,hP,hO,hf⟩;obtain⟨h1,h2⟩:=h.setDev (x':=⟨x.name,true,l⟩) hi hP hb hO hf;exact⟨rfl,_,h1,hO.mono (fun y hy=>by simp at hy;subst hy;exact(oP L n i hi).symm.subset (List.mem_cons_self ..)),h2⟩
theorem Fq{W:World}{n:Nat}{g nm:ByteArray}{L:EW}{s:EN}(h:au W n g nm L s){i:Nat}{d:DW}{x:bS}(hi:L.ds[i]?=some d)(hx:s.dev[i]?=some x):
  Calls Tryz.prog 266 #[.pointer (some ⟨d.blk,0,none⟩)] W fun e w'=>(∃c,e=.returned (.int .i64 c))/\au w' n g nm L {s with dev:=s.dev.set i ⟨x.name,false,x.items⟩}/\ai (L.feet n) W w':=by
 have hN:=(oP L n i hi).nodup_iff.1 h.apart;refine(MS d x W (h.devs i d x hi hx) (fun e=>(List.nodup_cons.1 hN).1 (List.mem_append_left _ (bG e)))).mono ?_;rintro e w' ⟨hc,hP,hO⟩;obtain⟨h1,h2⟩:=h.setDev (x':=⟨x.name,false,x.items⟩) hi hP rfl hO (fun b hb=>.inl hb);obtain⟨hl,he⟩:=List.getElem?_eq_some_iff.1 hi;have e2:L.ds.set i d=L.ds:=by rw[<-he];exact List.set_getElem_self _
 rw[e2]at h1;exact⟨hc,h1,hO.mono (fun y hy=>by simp at hy;subst hy;exact(oP L n i hi).symm.subset (List.mem_cons_self ..))⟩
theorem Rv{W:World}{n:Nat}{g nm:ByteArray}{L:EW}{s:EN}(h:au W n g nm L s)(dn:ByteArray):
  Calls Tryz.prog 275 #[.pointer (some ⟨L.tb,0,none⟩),.string dn] W fun e w'=>(∃c,e=.returned (.int .i64 c))/\au w' n g nm L {s with al:=aJ s.al dn}/\ai (L.feet n) W w':=by
 refine(Es L.tb L.tm s.al dn W h.tab (by have:=h.few.2.1;omega)).mono ?_;rintro e w' ⟨rfl,hT,hO⟩;exact⟨⟨_,rfl⟩,h.setTab (hO.mono (by simp)) hT (Nat.le_trans (List.length_filter_le _ _) h.few.2.1),hO.mono (fun y hy=>by simp at hy;subst hy;unfold EW.feet;simp)⟩
theorem Fs(a:ByteArray)(b:Bool)(c:Option Addr)(l k:Nat)(w:World):(Instr.field 46 (.agg #[.string a,.bool b,.slice c l k]) 2).run Tryz.prog w=.ok (.slice c l k) w:=by kernel_rfl
theorem Rx(n:Nat)(g nm:ByteArray)(L:EW)(s:EN)(dn:ByteArray)(p:iI)(w:World)(h:au w n g nm L s)(hr:dP bS.name s.dev)(h0:0<=p.s):
  Calls Tryz.prog 219 #[.pointer (some ⟨n,0,none⟩),.string dn,p.val] w (dQ n g nm L (lg s dn p) w):=by
 have hW0:=dS w p;have Gy:=fun W (ho:ai (L.feet n) (eG w p) W)=>bH w p (S:=L.feet n) (fun hx=>Nat.lt_irrefl _ (h.lt _ hx)) W ho
 obtain⟨p0,p1,p2,p3,p4,p5⟩:=bH w p (S:=[]) (by simp) _ (ai.refl _ _);have hv:p.val=.agg #[.int .u64 p.t,.bool p.h,.int .u64 p.s,.string p.u,.string p.b,.slice p.a p.M.length p.c]:=rfl;unfold dQ lg;by_cases h1:fG s dn p=1
 ·rw[if_neg (by simpa using h1)]
  obtain⟨_,_,⟨x,hx,hon,hn⟩,hft⟩:=lG h1;have hi:cu bS.name s.dev dn<L.ds.length:=by rw[<-h.len];exact(List.getElem?_eq_some_iff.1 hx).1
  obtain⟨d,hd⟩: ∃d,L.ds[cu bS.name s.dev dn]?=some d:=⟨_,List.getElem?_eq_getElem hi⟩;have cL:=zH (h.nil' hW0) hr h0 h1 hd;rw[hx];simp only;have hEd:=fun W (ho:ai [] w W)=>h.nil' ho
  have cD:=fun W (ho:ai [] w W)=>Fq (h.nil' ho) hd hx
  have hC:=fun W s' (hk:au W n g nm L s')=>aR hk (S:=[]) (by simp) W (ai.refl _ _)
  have cR:=fun W s' (hk:au W n g nm L s')=>Rv hk dn
  have cK:=fun W (s':EN) (hk:au W n g nm L s') (hf:iU s' p=true)=>sN n g nm L s' p W hk h0 hf
  rw[hv]at cL cK⊢;simp only[eG]at hW0 Gy cL p0 p1 p2 p3 p4 p5;have UE:=af (show iU {s with dev:=s.dev.set (cu bS.name s.dev dn) ⟨x.name,false,x.items⟩,al:=aJ s.al dn} p=true from hft);have hrb:L.rb∈L.feet n:=by unfold EW.feet;simp
  generalize d.blk=db at*;generalize cu bS.name s.dev dn=pos at*;change Hid _ at Gy cD hC cR cK hrb;replace hW0:=af hW0;replace cL:=af cL;clear h hr h0 h1 hv hx hon hn hft hi hd hEd;go_enter Tryz.func219,Tryz.ntmps219
  go_wp2_with(first
   |(go_at_call 273;(with_reducible refine cL.out.mono ?_);rintro e w2 ⟨rfl,hO2⟩;have hX2:=hW0.out.trans hO2;have cD2:=af (cD.out _ hX2);replace hX2:=af hX2;replace hO2:=af hO2)
   |(go_at_call 266;(with_reducible refine cD2.out.mono ?_);rintro e w3 ⟨⟨c3,rfl⟩,jL,hO3⟩;obtain⟨⟨_,_,_,_,_,k7,_⟩,_⟩:=hC.out _ _ jL;have cR3:=af (cR.out _ _ jL);replace hO3:=af hO3;clear jL)
   |(go_at_call 275;(with_reducible refine cR3.out.mono ?_);rintro e w4 ⟨⟨c4,rfl⟩,kH,hO4⟩;have kJ:=hO3.out.trans hO4;obtain⟨u0,u1,u2,u3,u4,u5⟩:=Gy.out _ (hO2.out.nil.trans kJ);have cK4:=af (cK.out _ _ kH UE.out);replace kJ:=af kJ;clear kH hO4)
   |(go_at_call 269;(with_reducible refine cK4.out.mono ?_);rintro e w5 ⟨rfl,iZ,aF⟩;replace iZ:=af iZ;replace aF:=af aF))
  go_ret
  exact⟨rfl,L,iZ.out,(hX2.out.nil.trans kJ.out).trans (aF.out.mono (fun y hy=>by simp at hy;subst hy;exact hrb.out)),fun y hy=>.inl hy⟩
 ·rw[if_pos h1]
  have cL:=zI (dn:=dn) (h.nil' hW0) hr h0;have hsame:=af fun W (ho:ai [] w W)=>h.same ho
  have hb:(fG s dn p !=1)=true:=by simpa using h1
  rw[hv]at cL⊢;simp only[eG]at hW0 cL p0 p1 p2 p3 p4 p5;generalize fG s dn p=lv at*;replace hW0:=af hW0;replace cL:=af cL;clear h hr h0 h1 hv Gy;go_enter Tryz.func219,Tryz.ntmps219
  go_wp2_with(go_at_call 273;(with_reducible refine cL.out.mono ?_);rintro e w2 ⟨q2,rfl,hO2⟩;have hX2:=af (hW0.out.trans hO2);clear hO2)
  go_ret
  exact⟨rfl,hsame.out _ hX2.out⟩
theorem Wi(n:Nat)(g nm:ByteArray)(L:EW)(s:EN)(dn:ByteArray)(p:iI)(w:World)(h:au w n g nm L s)(hr:dP bS.name s.dev)(hM:eF w p.a p.M)(h0:0<=p.s)(hE:jP w):
  Calls Tryz.prog 218 #[.pointer (some ⟨n,0,none⟩),.string dn,p.val] w (dQ n g nm L (qf s dn p) w):=by
 have hW0:=dS w p;have hP:=fun W (ho:ai [] (eG w p) W)=>bH w p (S:=[]) (by simp) W ho
 have Gy:=fun W (ho:ai (L.feet n) (eG w p) W)=>bH w p (S:=L.feet n) (fun hx=>Nat.lt_irrefl _ (h.lt _ hx)) W ho
 obtain⟨p0,p1,p2,p3,p4,p5⟩:=bH w p (S:=[]) (by simp) _ (ai.refl _ _);have hv:p.val=.agg #[.int .u64 p.t,.bool p.h,.int .u64 p.s,.string p.u,.string p.b,.slice p.a p.M.length p.c]:=rfl;have hsame:=af fun W (ho:ai [] w W)=>h.same ho
 unfold dQ qf;by_cases h1:fG s dn p=1
 ·rw[if_neg (by simpa using h1)]
  obtain⟨_,_,⟨x,hx,hon,hn⟩,hft⟩:=lG h1;have hi:cu bS.name s.dev dn<L.ds.length:=by rw[<-h.len];exact(List.getElem?_eq_some_iff.1 hx).1
  obtain⟨d,hd⟩: ∃d,L.ds[cu bS.name s.dev dn]?=some d:=⟨_,List.getElem?_eq_getElem hi⟩;have cL:=zH (h.nil' hW0) hr h0 h1 hd;rw[hx];simp only;have hxl:=(h.devs _ d x hd hx).2.2.2;have cV:=fun W (ho:ai [] w W)=>wK d x W ((h.nil' ho).devs _ d x hd hx)
  have hC:=fun W (ho:ai [] w W)=>aR h (S:=[]) (by simp) W ho
  have cU:=fun W a cap (ho:ai [] w W) (hA:bB W a x.items)=>Eo a x.items cap p.a p.M p.c L.tb L.tm s.al dn W hA (hM.nil' ho) (h.tab.own ho (by simp) (by simp)) (by omega) (hE.nil ho)
  have Gl:=Nat.le_trans (Bc (gK s.al dn) p.M x.items) hxl;have hat:=fun W a cap B (hR:aM B W a cap x.items)=>(hR.at_ (by omega):bB W a x.items)
  have cT:=fun W a cap (ho:ai [] w W) (hA:bB W a (fZ (gK s.al dn) p.M x.items).2)=>Ru (h.nil' ho) hd hx hon a _ cap hA Gl
  have cK:=fun W L' (s':EN) (hk:au W n g nm L' s') (hf:iU s' p=true)=>sN n g nm L' s' p W hk h0 hf
  have hfe: ∀W (L':EW),ai [] w W->(∀y∈L'.feet n,y∈L.feet n\/W.heap.size<=y)->(∀y∈L'.feet n,y∈L.feet n\/w.heap.size<=y):=fun W L' ho hf y hy=>by
   rcases hf y hy with h1|h1
   ·exact .inl h1
   ·exact .inr (Nat.le_trans ho.size h1)
  unfold lD at cU;rw[hv]at cL cK⊢;simp only[eG]at hW0 hP Gy cL p0 p1 p2 p3 p4 p5;have UE:=af (fun l=>(show iU {s with dev:=s.dev.set (cu bS.name s.dev dn) ⟨x.name,true,l⟩} p=true from hft));have hrb: ∀(L':EW),L'.rb∈L'.feet n:=fun L'=>by unfold EW.feet;simp
  have hS:=fun W (ho:ai [] (w.alloc (.cells #[.int .u64 p.t,.bool p.h,.int .u64 p.s,.string p.u,.string p.b,.slice p.a p.M.length p.c] 54)) W)=>(show W.cell? ⟨n,7,none⟩=some (.pointer (some ⟨L.tb,0,none⟩))/\W.cell? ⟨w.heap.size,5,none⟩=some (.slice p.a p.M.length p.c)from⟨(hC _ (hW0.trans ho)).1.2.2.2.2.2.1,(hP _ ho).2.2.2.2.2⟩)
  generalize fZ (gK s.al dn) p.M x.items=up at*;obtain⟨up1,up2⟩:=up;simp only at*;generalize d.blk=db at*;generalize cu bS.name s.dev dn=pos at*;have hvi:=Fs;change Hid _ at hP Gy cV cU cT hat hC cK hrb hfe hS;replace hW0:=af hW0;replace cL:=af cL;have aaE:=af Gl;clear h hr h0 h1 hv hx hon hn hft hi hd hM hE Gl hxl;by_cases hu:up1=1
  ·subst hu
   rw[if_neg (by simp)];go_enter Tryz.func218,Tryz.ntmps218
   go_wp2_with(go_at_call 273;(with_reducible refine cL.out.mono ?_);rintro e w2 ⟨rfl,hO2⟩;have hX2:=hW0.out.trans hO2;have cV2:=af (cV.out _ hX2.drew);obtain⟨l7,l5⟩:=hS.out _ hO2;replace hX2:=af hX2.drew;replace hO2:=af hO2.drew)
   go_region_held3(fun W=>W.cell? ⟨n,7,none⟩=some (.pointer (some ⟨L.tb,0,none⟩))/\W.cell? ⟨w.heap.size,5,none⟩=some (.slice p.a p.M.length p.c))
    (first|go_keep|exact kA|exact kB)
    ((first
      |(go_at_call 62;(with_reducible refine cV2.out.mono ?_);rintro e w3 ⟨a3,aaM,rfl,fB,hO3⟩;have fC:=hX2.out.trans hO3;have dO:=hO2.out.trans hO3;have kA:=hS.out _ dO;have cU3:=af (cU.out _ _ aaM fC (hat.out _ _ _ _ fB));replace fC:=af fC;replace dO:=af dO;clear fB hO3)
      |(go_at_call 268;(with_reducible refine cU3.out.mono ?_);rintro e w4 ⟨a4,cap4,rfl,qA,hO4⟩;have qC:=fC.out.trans hO4;have kJ:=dO.out.trans hO4;have kB:=hS.out _ kJ;have cT4:=af (cT.out _ _ cap4 qC (qA.at_ (by have:=aaE.out;omega)));replace qC:=af qC;replace kJ:=af kJ;clear qA hO4)))
   all_goals
    go_wp2_with(first
     |(go_at_call 274;(with_reducible refine cT4.out.mono ?_);rintro e w5 ⟨rfl,L5,iZ,aF,Dp⟩;obtain⟨u0,u1,u2,u3,u4,u5⟩:=Gy.out _ (kJ.out.nil.trans aF);have cK5:=af (cK.out _ _ _ iZ (UE.out _));replace aF:=af aF;replace Dp:=af Dp;clear iZ)
     |(go_at_call 269;(with_reducible refine cK5.out.mono ?_);rintro e w6 ⟨rfl,Gm,bI⟩;replace Gm:=af Gm;replace bI:=af bI))
    go_ret
    exact⟨rfl,nH (qC.out.nil.trans aF.out) (hfe.out _ _ qC.out Dp.out) ⟨L5,Gm.out,bI.out.mono (fun y hy=>by simp at hy;subst hy;exact hrb.out L5),fun y hy=>.inl hy⟩⟩
  ·rw[if_pos hu]
   have hu1:(up1 !=1)=true:=by simpa using hu
   clear hu;go_enter Tryz.func218,Tryz.ntmps218
   go_wp2_with(go_at_call 273;(with_reducible refine cL.out.mono ?_);rintro e w2 ⟨rfl,hO2⟩;have hX2:=hW0.out.trans hO2;have cV2:=af (cV.out _ hX2.drew);obtain⟨l7,l5⟩:=hS.out _ hO2;replace hX2:=af hX2.drew;replace hO2:=af hO2.drew)
   go_region_held3(fun W=>W.cell? ⟨n,7,none⟩=some (.pointer (some ⟨L.tb,0,none⟩))/\W.cell? ⟨w.heap.size,5,none⟩=some (.slice p.a p.M.length p.c))
    (first|go_keep|exact kA|exact kB)
    ((first
      |(go_at_call 62;(with_reducible refine cV2.out.mono ?_);rintro e w3 ⟨a3,aaM,rfl,fB,hO3⟩;have fC:=hX2.out.trans hO3;have dO:=hO2.out.trans hO3;have kA:=hS.out _ dO;have cU3:=af (cU.out _ _ aaM fC (hat.out _ _ _ _ fB));replace fC:=af fC;replace dO:=af dO;clear fB hO3)
      |(go_at_call 268;(with_reducible refine cU3.out.mono ?_);rintro e w4 ⟨a4,cap4,rfl,qA,hO4⟩;have qC:=fC.out.trans hO4;have kJ:=dO.out.trans hO4;have kB:=hS.out _ kJ;replace qC:=af qC;replace kJ:=af kJ;clear qA hO4)))
   all_goals
    go_wp2_with fail
    go_ret
    exact⟨rfl,hsame.out _ qC.out⟩
 ·rw[if_pos h1]
  have cL:=zI (dn:=dn) (h.nil' hW0) hr h0;have hb:(fG s dn p !=1)=true:=by simpa using h1
  rw[hv]at cL⊢;simp only[eG]at hW0 cL p0 p1 p2 p3 p4 p5;generalize fG s dn p=lv at*;replace hW0:=af hW0;replace cL:=af cL;clear h hr h0 h1 hv Gy hP hM hE;go_enter Tryz.func218,Tryz.ntmps218
  go_wp2_with(go_at_call 273;(with_reducible refine cL.out.mono ?_);rintro e w2 ⟨q2,rfl,hO2⟩;have hX2:=af (hW0.out.trans hO2);clear hO2)
  go_ret
  exact⟨rfl,hsame.out _ hX2.out⟩
end Go.Proofs.YtedcakchekaemaaGreatDoor
namespace Go.Proofs.YtedcakchekaemaaGreatDoor
open Go.RowKit
def Fu(x:bS):bS:=⟨x.name,false,x.items⟩
def qg(s:EN)(p:iI):Int×EN:=
 if p.bd.2=false then(9,s)else if s.online=false\/p.bd.1≠s.bd then(2,s)
 else(1,{s with online:=false,want:=0,begun:=false,al:=[],dev:=s.dev.map Fu})
def tY(D:List bS)(i:Nat):List bS:=(D.take i).map Fu++D.drop i
theorem I4(D:List bS):tY D 0=D:=by simp[tY]
theorem Nb(D:List bS):tY D D.length=D.map Fu:=by simp[tY]
theorem Nc{D:List bS}{i:Nat}{x:bS}(h:D[i]?=some x):(tY D i)[i]?=some x:=by
 have hl:=(List.getElem?_eq_some_iff.1 h).1;unfold tY;rw[List.getElem?_append_right (by simp;omega)];simpa[Nat.min_eq_left (Nat.le_of_lt hl)]using h
theorem I5{D:List bS}{i:Nat}{x:bS}(h:D[i]?=some x):(tY D i).set i (Fu x)=tY D (i+1):=by
 obtain⟨hl,rfl⟩:=List.getElem?_eq_some_iff.1 h;have e1:((D.take i).map Fu).length=i:=by simp;omega
 unfold tY;have e2:D.drop i=D[i]::D.drop (i+1):=List.drop_eq_getElem_cons hl;rw[List.set_append_right _ _ (by omega),e1,Nat.sub_self,e2,List.take_succ_eq_append_getElem hl];simp only[List.set_cons_zero,List.map_append,List.map_cons,List.map_nil,List.append_assoc,List.singleton_append]
theorem I6(b m:Nat)(l:dY)(w:World)(h:uS w b m l):
  Calls Tryz.prog 265 #[.pointer (some ⟨b,0,none⟩)] w fun e w'=>(∃c,e=.returned (.int .i64 c))/\uS w' b m []/\ai [m] w w':=by
 have hm:w.cell? ⟨b,0,none⟩=some (.map (some m)):=cell_of_row w b 0 _ _ _ h.row;have cL:=af (Vw b m l w h);obtain⟨w1,hrun,hM,hO,_⟩:=h.map.clear (P:=Tryz.prog) kz 0;have hT:uS w1 b m []:=⟨h.ne,hO.heap h.row (by simpa using h.ne),hM⟩;have hr2:=fun ty=>(h.map.clear (P:=Tryz.prog) kz ty)
 cases l with
 |nil=>
  change Hid _ at h;clear hrun hM hO hT hr2;go_enter Tryz.func265,Tryz.ntmps265
  go_wp2_with(go_at_call 301;(with_reducible refine cL.out.mono ?_);rintro e w2 ⟨rfl,rfl⟩)
  go_ret
  exact⟨⟨_,rfl⟩,h.out,ai.refl _ _⟩
 |cons p r=>
  have hl:(0:Int)<((p::r).length:Int):=by simp
  generalize(p::r).length=len at*;change Hid _ at hT hO;clear hM h hr2;go_enter Tryz.func265,Tryz.ntmps265
  go_wp2_with(go_at_call 301;(with_reducible refine cL.out.mono ?_);rintro e w2 ⟨rfl,rfl⟩)
  go_ret
  exact⟨⟨_,rfl⟩,hT.out,hO.out⟩
theorem au.setRow{w w':World}{n:Nat}{g nm:ByteArray}{L:EW}{s:EN}(h:au w n g nm L s){y:Int}{b:Bool}(ho:ai [L.rb] w w')(hR:Sq.RowAt w' L.rb y b):au w' n g nm L {s with want:=y,begun:=b}:=by
 have hA:=h.apart;unfold EW.feet at hA;simp only[List.nodup_cons,List.mem_cons,List.mem_append,not_or]at hA;obtain⟨⟨a1,a2,a3,a4,a5,a6⟩,⟨b2,b3,b4,b5,b6⟩,_⟩:=hA;have hno: ∀x,x≠L.rb->x∉[L.rb]:=fun x h1=>by simp[h1]
 refine⟨ho.heap h.row (hno _ a1),hR,h.tab.own ho (hno _ (Ne.symm b2)) (hno _ (Ne.symm b3)),h.its.own' ho (fun b hb=>hno b (fun e=>b4 (e▸bG hb))),h.dvs.own ho (fun b hb=>hno b (fun e=>b5 (e▸by simp[hb]))),h.len,fun i d x hd hx=>?_,h.apart,h.few⟩;have hm:d∈L.ds:=List.mem_of_getElem? hd;have hin: ∀b,b∈iW d->b≠L.rb:=fun b hb e=>b6 (List.mem_flatMap.2 ⟨d,hm,e▸hb⟩)
 exact(h.devs i d x hd hx).own ho (hno _ (hin _ (List.mem_cons_self ..))) (fun b hb=>hno b (hin b (List.mem_cons_of_mem _ (bG hb))))
theorem au.setOn{w:World}{n:Nat}{g nm:ByteArray}{L:EW}{s:EN}(h:au w n g nm L s)(v:Bool):
  au (w.setCell ⟨n,2,none⟩ (.bool v)) n g nm L {s with online:=v}/\ai [n] w (w.setCell ⟨n,2,none⟩ (.bool v)):=by
 have hO2:ai [n] w (w.setCell ⟨n,2,none⟩ (.bool v)):=(ai.refl _ _).setCell (by simp) _;have hA:=h.apart;unfold EW.feet at hA;simp only[List.nodup_cons,List.mem_cons,List.mem_append,not_or]at hA;obtain⟨⟨a1,a2,a3,a4,a5,a6⟩,_⟩:=hA;refine⟨⟨heap_setCell_same _ _ _ _ _ _ h.row,h.rrow.own hO2 (by simpa using Ne.symm a1),h.tab.own hO2 (by simpa using Ne.symm a2) (by simpa using Ne.symm a3),h.its.own' hO2 (fun b hb=>?_),h.dvs.own hO2 (fun b hb=>?_),h.len,fun i d x hd hx=>?_,h.apart,h.few⟩,hO2⟩
 ·have:=bG hb
  simp;rintro rfl;exact a4 this
 ·simp;rintro rfl
  exact a5 (by simp[hb])
 ·have hm:d∈L.ds:=List.mem_of_getElem? hd
  have hn2: ∀b,b∈iW d->b≠n:=fun b hb e=>by
   subst e;exact a6 (List.mem_flatMap.2 ⟨d,hm,hb⟩)
  exact(h.devs i d x hd hx).own hO2 (by simpa using hn2 _ (List.mem_cons_self ..)) (fun b hb=>by simpa using hn2 b (List.mem_cons_of_mem _ (bG hb)))
theorem Wj{W:World}{n:Nat}{g nm:ByteArray}{L:EW}{s:EN}(h:au W n g nm L s):
  Calls Tryz.prog 264 #[.pointer (some ⟨L.rb,0,none⟩)] W fun e w'=>(∃c,e=.returned (.bool c))/\au w' n g nm L {s with want:=0,begun:=false}/\ai (L.feet n) W w':=
 (Sq.end_any L.rb s.want s.begun W h.rrow).mono (by
  rintro e w' ⟨rfl,hR,hO⟩;exact⟨⟨_,rfl⟩,h.setRow hO hR,hO.mono (fun y hy=>by simp at hy;subst hy;unfold EW.feet;simp)⟩)
theorem Nf{W:World}{n:Nat}{g nm:ByteArray}{L:EW}{s:EN}(h:au W n g nm L s):
  Calls Tryz.prog 265 #[.pointer (some ⟨L.tb,0,none⟩)] W fun e w'=>(∃c,e=.returned (.int .i64 c))/\au w' n g nm L {s with al:=[]}/\ai (L.feet n) W w':=
 (I6 L.tb L.tm s.al W h.tab).mono (by
  rintro e w' ⟨hc,hT,hO⟩;exact⟨hc,h.setTab (hO.mono (by simp)) hT (by simp),hO.mono (fun y hy=>by simp at hy;subst hy;unfold EW.feet;simp)⟩)
theorem Ng(n:Nat)(g nm:ByteArray)(L:EW)(s:EN)(dn:ByteArray)(p:iI)(w:World)(h:au w n g nm L s)(hM:eF w p.a p.M):
  Calls Tryz.prog 215 #[.pointer (some ⟨n,0,none⟩),.string dn,p.val] w (dQ n g nm L (qg s p) w):=by
 have hW0:=dS w p;obtain⟨p0,p1,p2,p3,p4,p5⟩:=bH w p (S:=[]) (by simp) _ (ai.refl _ _);have hv:p.val=.agg #[.int .u64 p.t,.bool p.h,.int .u64 p.s,.string p.u,.string p.b,.slice p.a p.M.length p.c]:=rfl;have hsame:=af fun W (ho:ai [] w W)=>h.same ho
 have cB:=fun W (ho:ai [] w W)=>Kq p W (hM.nil' ho)
 have hE0:=fun W (ho:ai [] w W)=>h.nil' ho
 have hC:=fun W s' (hk:au W n g nm L s')=>aR hk (S:=[]) (by simp) W (ai.refl _ _)
 have hlen:=h.len;have hl4:L.ds.length<=4:=by rw[<-h.len];exact h.few.2.2
 obtain⟨da,dc,hdv⟩:=h.dvs.sl;unfold dQ qg;rw[hv]at cB⊢;simp only[eG]at hW0 p0 p1 p2 p3 p4 p5;generalize p.bd=bd at*;obtain⟨bd1,bd2⟩:=bd;simp only at*;cases bd2 with
 |false=>
  rw[if_pos rfl];change Hid _ at cB;replace hW0:=af hW0;clear hE0 hC hlen hl4 hdv h hM hv;go_enter Tryz.func215,Tryz.ntmps215
  go_wp2_with(go_at_call 258;(with_reducible refine(cB.out _ hW0.out).mono ?_);rintro e w2 ⟨rfl,hO2⟩;have hX2:=af (hW0.out.trans hO2);clear hO2)
  go_ret
  exact⟨rfl,hsame.out _ hX2.out⟩
 |true=>
  rw[if_neg (by simp)];have hC0:=fun W (ho:ai [] w W)=>hC W s (h.nil' ho)
  cases hon:s.online with
  |false=>
   rw[if_pos (.inl rfl)];rw[hon]at hC0;change Hid _ at hC0 cB;replace hW0:=af hW0;clear hE0 hC hlen hl4 hdv h hM hv hon;go_enter Tryz.func215,Tryz.ntmps215
   go_wp2_with(go_at_call 258;(with_reducible refine(cB.out _ hW0.out).mono ?_);rintro e w2 ⟨rfl,hO2⟩;have hX2:=hW0.out.trans hO2;obtain⟨⟨k2,k3,_⟩,_⟩:=hC0.out _ hX2;replace hX2:=af hX2;clear hO2)
   go_ret
   exact⟨rfl,hsame.out _ hX2.out⟩
  |true=>
   rw[hon]at hC0;by_cases hb:bd1=s.bd
   ·rw[if_neg (by simp[hb])]
    rw[hb]at cB;change Hid _ at hC0 cB;have oh:=af hW0;have hE1:=af fun W (ho:ai [] w W)=>(h.nil' ho).setOn false
    have cR:=af fun W s' (hk:au W n g nm L s')=>Wj hk
    have cT:=af fun W s' (hk:au W n g nm L s')=>Nf hk
    have hnf:n∈L.feet n:=by unfold EW.feet;simp
    change Hid _ at hnf hC hlen hon;have hsb:(s.bd !=s.bd)=false:=by simp
    clear hE0 hM hv hW0 hb h;go_enter Tryz.func215,Tryz.ntmps215
    go_wp2_with(first
     |(go_at_call 258;(with_reducible refine(cB.out _ oh.out).mono ?_);rintro e w2 ⟨rfl,hO2⟩;have hX2:=oh.out.trans hO2;obtain⟨⟨k2,k3,k4,k5,k6,k7,k8⟩,f2,_⟩:=hC0.out _ hX2;obtain⟨hE2,hP2⟩:=hE1.out _ hX2;have cR2:=af (cR.out _ _ hE2);replace hX2:=af (hX2.nil.trans (hP2.mono (fun y hy=>by simp at hy;subst hy;exact hnf.out)));clear hO2 hE2 hP2)
     |(go_at_call 264;(with_reducible refine cR2.out.mono ?_);rintro e w3 ⟨⟨c3,rfl⟩,jL,hO3⟩;obtain⟨⟨_,_,_,_,_,z7,_⟩,_⟩:=hC.out _ _ jL;have cT3:=af (cT.out _ _ jL);replace hO3:=af (hX2.out.trans hO3);clear jL)
     |(go_at_call 265;(with_reducible refine cT3.out.mono ?_);rintro e w4 ⟨⟨c4,rfl⟩,kH,hO4⟩;obtain⟨⟨_,_,_,_,_,_,z8⟩,_⟩:=hC.out _ _ kH;rw[hdv]at z8;replace hO4:=af (hO3.out.trans hO4);replace kH:=af kH))
    go_loopg[49] L.ds.length (fun m s49 wr=> ∃i:Nat,i<=L.ds.length/\m=L.ds.length-i/\s49=.int .i64 i/\
     Aside (au wr n g nm L {s with online:=false,want:=0,begun:=false,al:=[],dev:=tY s.dev i}/\ai (L.feet n) w wr))
    case atStart=>exact⟨0,Nat.zero_le _,rfl,rfl,by rw[I4];exact kH.out,hO4.out⟩
    case round=>
     obtain⟨i,hi,rfl,rfl,hE,hO⟩:=hrel;by_cases hlt:i<L.ds.length
     ·have hdi:=List.getElem?_eq_getElem hlt
      have hxi:s.dev[i]?=some (s.dev[i]'(by rw[hlen.out];exact hlt)):=List.getElem?_eq_getElem _;obtain⟨gb,cp,e1,hcl⟩:=yw hE hdi;rw[hdv]at e1;cases e1;have cD:=Fq hE hdi (Nc hxi);have hst:=I5 hxi;unfold Fu at hst;rw[hst]at cD;replace cD:=af cD;replace hO:=af hO;generalize hdb:L.ds[i].blk=db at*;clear hE hxi hdi hst hdb;go_wp2_with(go_at_call 266;(with_reducible refine cD.out.mono ?_);rintro e w5 ⟨⟨c5,rfl⟩,iZ,aF⟩;replace aF:=af (hO.out.trans aF);replace iZ:=af iZ)
      go_roundg(L.ds.length-(i+1))
      case rel=>exact⟨i+1,by omega,rfl,by go_num,iZ.out,aF.out⟩
      case measure=>omega
     ·have hie:i=s.dev.length:=by rw[hlen.out];omega
      have Gm:=hE;rw[hie,Nb]at Gm;change Hid _ at Gm;replace hO:=af hO;clear hE hie;go_wp2_with fail
      go_ret
      exact⟨rfl,L,Gm.out,hO.out,fun y hy=>.inl hy⟩
   ·rw[if_pos (.inr hb)]
    have hbb:(bd1 !=s.bd)=true:=by simpa using hb
    change Hid _ at hC0 cB;replace hW0:=af hW0;clear hE0 hC hlen hl4 hdv h hM hv hon hb;go_enter Tryz.func215,Tryz.ntmps215
    go_wp2_with(go_at_call 258;(with_reducible refine(cB.out _ hW0.out).mono ?_);rintro e w2 ⟨rfl,hO2⟩;have hX2:=hW0.out.trans hO2;obtain⟨⟨k2,k3,_⟩,_⟩:=hC0.out _ hX2;replace hX2:=af hX2;clear hO2)
    go_ret
    exact⟨rfl,hsame.out _ hX2.out⟩
end Go.Proofs.YtedcakchekaemaaGreatDoor
namespace Go.Proofs.YtedcakchekaemaaGreatDoor
open Go.RowKit
theorem Nh(n:Nat)(g nm:ByteArray)(L:EW)(s:EN)(dn:ByteArray)(p:iI)(w:World)(h:au w n g nm L s)(hr:dP bS.name s.dev)(hM:eF w p.a p.M)(h0:0<=p.s)(hE:jP w):
  Calls Tryz.prog 96 #[.pointer (some ⟨n,0,none⟩),.int .i64 2,.string dn,p.val] w (dQ n g nm L (fe (qg s p)) w):=by
 have hW0:=dS w p;obtain⟨q0,q1,q2,q3,q4,q5⟩:=bH w p (S:=[]) (by simp) _ (ai.refl _ _);have cB:=Ng n g nm L s dn p (eG w p) (h.nil' hW0) (hM.nil' hW0);have hC:=fun W L' s' (hk:au W n g nm L' s')=>aR hk (S:=[]) (by simp) W (ai.refl _ _)
 obtain⟨⟨k2,k3,k4,k5,k6,k7,k8⟩,_⟩:=aR h (S:=[]) (by simp) _ hW0;have hp:=fun L' s' w2 (hE:au w2 n g nm L' s') hO hs=>jW (w:=w) (L:=L) hW0 hE hO hs
 have hq:=fun L' s' w2 (hE:au w2 n g nm L' s') hO hs=>jX (w:=w) (L:=L) hW0 hE hO hs
 have cN:=iK n ⟨L.rb,0,none⟩ (eG w p) k4;unfold dQ at cB⊢;have hv:p.val=.agg #[.int .u64 p.t,.bool p.h,.int .u64 p.s,.string p.u,.string p.b,.slice p.a p.M.length p.c]:=rfl;rw[hv]at cB⊢;simp only[eG]at cB cN hW0 q0 q1 q2 q3 q4 q5 k4;unfold fe;generalize qg s p=r at*;obtain⟨r1,r2⟩:=r;simp only at cB⊢;change Hid _ at hW0 hC hp hq;replace cB:=af cB;replace cN:=af cN;clear hv h hr hM h0 hE k2 k3 k5 k6 k7 k8;by_cases h3:3<=r1
 ·rw[if_pos h3]
  go_enter Tryz.func96,Tryz.ntmps96
  go_wp2_with(first
   |(go_at_call 59;(with_reducible refine cN.out.mono ?_);rintro e w1 ⟨rfl,rfl⟩)
   |(go_at_call 168;go_in)
   |(go_at_call 215;(with_reducible refine cB.out.mono ?_);rintro e w2 ⟨rfl,L',hE',jM,hs'⟩;obtain⟨⟨_,_,_,y5,_,_,_⟩,_,_,f5,_,_,_⟩:=hC.out _ _ _ hE';replace hE':=af hE';replace jM:=af jM;replace hs':=af hs'))
  go_ret
  exact⟨rfl,hp.out _ _ _ hE'.out jM.out hs'.out⟩
 ·rw[if_neg h3]
  go_enter Tryz.func96,Tryz.ntmps96
  go_wp2_with(first
   |(go_at_call 59;(with_reducible refine cN.out.mono ?_);rintro e w1 ⟨rfl,rfl⟩)
   |(go_at_call 168;go_in)
   |(go_at_call 215;(with_reducible refine cB.out.mono ?_);rintro e w2 ⟨rfl,L',hE',jM,hs'⟩;replace hE':=af hE';replace jM:=af jM;replace hs':=af hs'))
  go_ret
  exact⟨rfl,hq.out _ _ _ hE'.out jM.out hs'.out⟩
theorem Ni(n:Nat)(g nm:ByteArray)(L:EW)(s:EN)(dn:ByteArray)(p:iI)(w:World)(h:au w n g nm L s)(hr:dP bS.name s.dev)(hM:eF w p.a p.M)(h0:0<=p.s)(hE:jP w):
  Calls Tryz.prog 96 #[.pointer (some ⟨n,0,none⟩),.int .i64 5,.string dn,p.val] w (dQ n g nm L (fe (kZ s dn p)) w):=by
 have hW0:=dS w p;obtain⟨q0,q1,q2,q3,q4,q5⟩:=bH w p (S:=[]) (by simp) _ (ai.refl _ _);have cB:=IZ n g nm L s dn p (eG w p) (h.nil' hW0) hr (hM.nil' hW0) h0 (hE.nil hW0);have hC:=fun W L' s' (hk:au W n g nm L' s')=>aR hk (S:=[]) (by simp) W (ai.refl _ _)
 obtain⟨⟨k2,k3,k4,k5,k6,k7,k8⟩,_⟩:=aR h (S:=[]) (by simp) _ hW0;have hp:=fun L' s' w2 (hE:au w2 n g nm L' s') hO hs=>jW (w:=w) (L:=L) hW0 hE hO hs
 have hq:=fun L' s' w2 (hE:au w2 n g nm L' s') hO hs=>jX (w:=w) (L:=L) hW0 hE hO hs
 have cN:=iK n ⟨L.rb,0,none⟩ (eG w p) k4;unfold dQ at cB⊢;have hv:p.val=.agg #[.int .u64 p.t,.bool p.h,.int .u64 p.s,.string p.u,.string p.b,.slice p.a p.M.length p.c]:=rfl;rw[hv]at cB⊢;simp only[eG]at cB cN hW0 q0 q1 q2 q3 q4 q5 k4;unfold fe;generalize kZ s dn p=r at*;obtain⟨r1,r2⟩:=r;simp only at cB⊢;change Hid _ at hW0 hC hp hq;replace cB:=af cB;replace cN:=af cN;clear hv h hr hM h0 hE k2 k3 k5 k6 k7 k8;by_cases h3:3<=r1
 ·rw[if_pos h3]
  go_enter Tryz.func96,Tryz.ntmps96
  go_wp2_with(first
   |(go_at_call 59;(with_reducible refine cN.out.mono ?_);rintro e w1 ⟨rfl,rfl⟩)
   |(go_at_call 168;go_in)
   |(go_at_call 217;(with_reducible refine cB.out.mono ?_);rintro e w2 ⟨rfl,L',hE',jM,hs'⟩;obtain⟨⟨_,_,_,y5,_,_,_⟩,_,_,f5,_,_,_⟩:=hC.out _ _ _ hE';replace hE':=af hE';replace jM:=af jM;replace hs':=af hs'))
  go_ret
  exact⟨rfl,hp.out _ _ _ hE'.out jM.out hs'.out⟩
 ·rw[if_neg h3]
  go_enter Tryz.func96,Tryz.ntmps96
  go_wp2_with(first
   |(go_at_call 59;(with_reducible refine cN.out.mono ?_);rintro e w1 ⟨rfl,rfl⟩)
   |(go_at_call 168;go_in)
   |(go_at_call 217;(with_reducible refine cB.out.mono ?_);rintro e w2 ⟨rfl,L',hE',jM,hs'⟩;replace hE':=af hE';replace jM:=af jM;replace hs':=af hs'))
  go_ret
  exact⟨rfl,hq.out _ _ _ hE'.out jM.out hs'.out⟩
theorem Nj(n:Nat)(g nm:ByteArray)(L:EW)(s:EN)(dn:ByteArray)(p:iI)(w:World)(h:au w n g nm L s)(hr:dP bS.name s.dev)(hM:eF w p.a p.M)(h0:0<=p.s)(hE:jP w):
  Calls Tryz.prog 96 #[.pointer (some ⟨n,0,none⟩),.int .i64 6,.string dn,p.val] w (dQ n g nm L (fe (lg s dn p)) w):=by
 have hW0:=dS w p;obtain⟨q0,q1,q2,q3,q4,q5⟩:=bH w p (S:=[]) (by simp) _ (ai.refl _ _);have cB:=Rx n g nm L s dn p (eG w p) (h.nil' hW0) hr h0;have hC:=fun W L' s' (hk:au W n g nm L' s')=>aR hk (S:=[]) (by simp) W (ai.refl _ _)
 obtain⟨⟨k2,k3,k4,k5,k6,k7,k8⟩,_⟩:=aR h (S:=[]) (by simp) _ hW0;have hp:=fun L' s' w2 (hE:au w2 n g nm L' s') hO hs=>jW (w:=w) (L:=L) hW0 hE hO hs
 have hq:=fun L' s' w2 (hE:au w2 n g nm L' s') hO hs=>jX (w:=w) (L:=L) hW0 hE hO hs
 have cN:=iK n ⟨L.rb,0,none⟩ (eG w p) k4;unfold dQ at cB⊢;have hv:p.val=.agg #[.int .u64 p.t,.bool p.h,.int .u64 p.s,.string p.u,.string p.b,.slice p.a p.M.length p.c]:=rfl;rw[hv]at cB⊢;simp only[eG]at cB cN hW0 q0 q1 q2 q3 q4 q5 k4;unfold fe;generalize lg s dn p=r at*;obtain⟨r1,r2⟩:=r;simp only at cB⊢;change Hid _ at hW0 hC hp hq;replace cB:=af cB;replace cN:=af cN;clear hv h hr hM h0 hE k2 k3 k5 k6 k7 k8;by_cases h3:3<=r1
 ·rw[if_pos h3]
  go_enter Tryz.func96,Tryz.ntmps96
  go_wp2_with(first
   |(go_at_call 59;(with_reducible refine cN.out.mono ?_);rintro e w1 ⟨rfl,rfl⟩)
   |(go_at_call 168;go_in)
   |(go_at_call 219;(with_reducible refine cB.out.mono ?_);rintro e w2 ⟨rfl,L',hE',jM,hs'⟩;obtain⟨⟨_,_,_,y5,_,_,_⟩,_,_,f5,_,_,_⟩:=hC.out _ _ _ hE';replace hE':=af hE';replace jM:=af jM;replace hs':=af hs'))
  go_ret
  exact⟨rfl,hp.out _ _ _ hE'.out jM.out hs'.out⟩
 ·rw[if_neg h3]
  go_enter Tryz.func96,Tryz.ntmps96
  go_wp2_with(first
   |(go_at_call 59;(with_reducible refine cN.out.mono ?_);rintro e w1 ⟨rfl,rfl⟩)
   |(go_at_call 168;go_in)
   |(go_at_call 219;(with_reducible refine cB.out.mono ?_);rintro e w2 ⟨rfl,L',hE',jM,hs'⟩;replace hE':=af hE';replace jM:=af jM;replace hs':=af hs'))
  go_ret
  exact⟨rfl,hq.out _ _ _ hE'.out jM.out hs'.out⟩
theorem Nk(n:Nat)(g nm:ByteArray)(L:EW)(s:EN)(dn:ByteArray)(p:iI)(w:World)(h:au w n g nm L s)(hr:dP bS.name s.dev)(hM:eF w p.a p.M)(h0:0<=p.s)(hE:jP w):
  Calls Tryz.prog 96 #[.pointer (some ⟨n,0,none⟩),.int .i64 7,.string dn,p.val] w (dQ n g nm L (fe (qf s dn p)) w):=by
 have hW0:=dS w p;obtain⟨q0,q1,q2,q3,q4,q5⟩:=bH w p (S:=[]) (by simp) _ (ai.refl _ _);have cB:=Wi n g nm L s dn p (eG w p) (h.nil' hW0) hr (hM.nil' hW0) h0 (hE.nil hW0);have hC:=fun W L' s' (hk:au W n g nm L' s')=>aR hk (S:=[]) (by simp) W (ai.refl _ _)
 obtain⟨⟨k2,k3,k4,k5,k6,k7,k8⟩,_⟩:=aR h (S:=[]) (by simp) _ hW0;have hp:=fun L' s' w2 (hE:au w2 n g nm L' s') hO hs=>jW (w:=w) (L:=L) hW0 hE hO hs
 have hq:=fun L' s' w2 (hE:au w2 n g nm L' s') hO hs=>jX (w:=w) (L:=L) hW0 hE hO hs
 have cN:=iK n ⟨L.rb,0,none⟩ (eG w p) k4;unfold dQ at cB⊢;have hv:p.val=.agg #[.int .u64 p.t,.bool p.h,.int .u64 p.s,.string p.u,.string p.b,.slice p.a p.M.length p.c]:=rfl;rw[hv]at cB⊢;simp only[eG]at cB cN hW0 q0 q1 q2 q3 q4 q5 k4;unfold fe;generalize qf s dn p=r at*;obtain⟨r1,r2⟩:=r;simp only at cB⊢;change Hid _ at hW0 hC hp hq;replace cB:=af cB;replace cN:=af cN;clear hv h hr hM h0 hE k2 k3 k5 k6 k7 k8;by_cases h3:3<=r1
 ·rw[if_pos h3]
  go_enter Tryz.func96,Tryz.ntmps96
  go_wp2_with(first
   |(go_at_call 59;(with_reducible refine cN.out.mono ?_);rintro e w1 ⟨rfl,rfl⟩)
   |(go_at_call 168;go_in)
   |(go_at_call 218;(with_reducible refine cB.out.mono ?_);rintro e w2 ⟨rfl,L',hE',jM,hs'⟩;obtain⟨⟨_,_,_,y5,_,_,_⟩,_,_,f5,_,_,_⟩:=hC.out _ _ _ hE';replace hE':=af hE';replace jM:=af jM;replace hs':=af hs'))
  go_ret
  exact⟨rfl,hp.out _ _ _ hE'.out jM.out hs'.out⟩
 ·rw[if_neg h3]
  go_enter Tryz.func96,Tryz.ntmps96
  go_wp2_with(first
   |(go_at_call 59;(with_reducible refine cN.out.mono ?_);rintro e w1 ⟨rfl,rfl⟩)
   |(go_at_call 168;go_in)
   |(go_at_call 218;(with_reducible refine cB.out.mono ?_);rintro e w2 ⟨rfl,L',hE',jM,hs'⟩;replace hE':=af hE';replace jM:=af jM;replace hs':=af hs'))
  go_ret
  exact⟨rfl,hq.out _ _ _ hE'.out jM.out hs'.out⟩
theorem Nl(n:Nat)(g nm:ByteArray)(L:EW)(s:EN)(dn:ByteArray)(p:iI)(k:Int)(w:World)(h:au w n g nm L s)(h1:k≠1)(h2:k≠2)(h3:k≠3)(h5:k≠5)(h6:k≠6)(h7:k≠7):
  Calls Tryz.prog 96 #[.pointer (some ⟨n,0,none⟩),.int .i64 k,.string dn,p.val] w (dQ n g nm L (0,s) w):=by
 have hW0:=dS w p;obtain⟨q0,q1,q2,q3,q4,q5⟩:=bH w p (S:=[]) (by simp) _ (ai.refl _ _);obtain⟨⟨k2,k3,k4,k5,k6,k7,k8⟩,_⟩:=aR h (S:=[]) (by simp) _ hW0;have hsame:=fun W (ho:ai [] w W)=>h.same ho
 have cN:=iK n ⟨L.rb,0,none⟩ (eG w p) k4;unfold dQ;have hv:p.val=.agg #[.int .u64 p.t,.bool p.h,.int .u64 p.s,.string p.u,.string p.b,.slice p.a p.M.length p.c]:=rfl;rw[hv];simp only[eG]at cN hW0 q0 q1 q2 q3 q4 q5 k4;have b1:(k==1)=false:=by simpa using h1
 have b2:(k==2)=false:=by simpa using h2
 have b3:(k==3)=false:=by simpa using h3
 have b5:(k==5)=false:=by simpa using h5
 have b6:(k==6)=false:=by simpa using h6
 have b7:(k==7)=false:=by simpa using h7
 change Hid _ at hsame;replace cN:=af cN;replace hW0:=af hW0;clear hv h k2 k3 k5 k6 k7 k8 h1 h2 h3 h5 h6 h7;go_enter Tryz.func96,Tryz.ntmps96
 go_wp2_with(first
  |(go_at_call 59;(with_reducible refine cN.out.mono ?_);rintro e w1 ⟨rfl,rfl⟩)
  |(go_at_call 168;go_in)
  |(go_at_call 220;go_in))
 go_ret
 exact⟨rfl,hsame.out _ (hW0.out.alloc _)⟩
def oQ(s:EN)(k:Int)(dn:ByteArray)(p:iI):Int×EN:=
 if k=1 then fe (pU s p)else if k=2 then fe (qg s p)else if k=3 then fe (vD s p)else if k=5 then fe (kZ s dn p)
 else if k=6 then fe (lg s dn p)else if k=7 then fe (qf s dn p)else(0,s)
theorem ZI(n:Nat)(g nm:ByteArray)(L:EW)(s:EN)(k:Int)(dn:ByteArray)(p:iI)(w:World)(h:au w n g nm L s)(hr:dP bS.name s.dev)(hM:eF w p.a p.M)(h0:0<=p.s)(hE:jP w):
  Calls Tryz.prog 96 #[.pointer (some ⟨n,0,none⟩),.int .i64 k,.string dn,p.val] w (dQ n g nm L (oQ s k dn p) w):=by
 unfold oQ;by_cases h1:k=1
 ·subst h1;rw[if_pos rfl];exact M9 n g nm L s dn p w h hM h0 hE
 rw[if_neg h1];by_cases h2:k=2
 ·subst h2;rw[if_pos rfl];exact Nh n g nm L s dn p w h hr hM h0 hE
 rw[if_neg h2];by_cases h3:k=3
 ·subst h3;rw[if_pos rfl];exact Na n g nm L s dn p w h hM h0 hE
 rw[if_neg h3];by_cases h5:k=5
 ·subst h5;rw[if_pos rfl];exact Ni n g nm L s dn p w h hr hM h0 hE
 rw[if_neg h5];by_cases h6:k=6
 ·subst h6;rw[if_pos rfl];exact Nj n g nm L s dn p w h hr hM h0 hE
 rw[if_neg h6];by_cases h7:k=7
 ·subst h7;rw[if_pos rfl];exact Nk n g nm L s dn p w h hr hM h0 hE
 rw[if_neg h7];exact Nl n g nm L s dn p k w h h1 h2 h3 h5 h6 h7
end Go.Proofs.YtedcakchekaemaaGreatDoor
namespace Go.Proofs.YtedcakchekaemaaGreatDoor
open Go.RowKit
def jI(s:EN):Prop:=dP bS.name s.dev/\(s.online=false->s.begun=false/\s.al=[]/\ ∀x∈s.dev,x.on=false)
theorem Ry:jI ⟨false,0,0,false,false,[],[],[]⟩:=⟨List.Pairwise.nil,fun _=>⟨rfl,rfl,by simp⟩⟩
theorem I7{D:List bS}(h:dP bS.name D)(dn:ByteArray)(l:List bJ):dP bS.name (IY D dn l):=by
 unfold IY;cases hh:jH bS.name D dn with
 |true=>
  obtain⟨x,hx,hn⟩:=oN hh;rw[if_pos rfl];exact wV h hx hn.symm
 |false=>
  rw[if_neg (by simp)];exact IQ (x:=⟨dn,true,l⟩) h (MU h hh)
theorem Nn{D:List bS}(h:dP bS.name D):dP bS.name (D.map Fu):=List.pairwise_map.2 (h.imp fun hx=>hx)
theorem I8{s:EN}(h:jI s)(p:iI):jI (pU s p).2:=by
 unfold pU
 repeat' split
 all_goals first|exact h|exact⟨List.Pairwise.nil,fun h=>by simp at h⟩
theorem I9{s:EN}(h:jI s)(p:iI):jI (qg s p).2:=by
 unfold qg
 repeat' split
 all_goals first|exact h|exact⟨Nn h.1,fun _=>⟨rfl,rfl,fun x hx=>by obtain⟨y,_,rfl⟩:=List.mem_map.1 hx;rfl⟩⟩
theorem Np{s:EN}(h:jI s)(p:iI):jI (vD s p).2:=by
 unfold vD
 repeat' split
 all_goals exact h
theorem Fv{s:EN}(h:jI s)(dn:ByteArray)(p:iI):jI (kZ s dn p).2:=by
 unfold kZ;split
 ·exact h
 ·rename_i ho
  repeat' split
  all_goals first|exact h|exact⟨I7 h.1 _ _,fun h2=>absurd h2 ho⟩
theorem Fw{s:EN}(h:jI s)(dn:ByteArray)(p:iI):jI (lg s dn p).2:=by
 unfold lg;split
 ·exact h
 ·rename_i h1
  obtain⟨ho,_⟩:=lG (by simpa using h1);split
  ·exact h
  ·rename_i x hx
   exact⟨wV h.1 hx rfl,fun h2=>by rw[show s.online=false from h2]at ho;cases ho⟩
theorem Ja{s:EN}(h:jI s)(dn:ByteArray)(p:iI):jI (qf s dn p).2:=by
 unfold qf;split
 ·exact h
 ·rename_i h1
  obtain⟨ho,_⟩:=lG (by simpa using h1);split
  ·exact h
  ·rename_i x hx
   split
   ·exact h
   ·exact⟨wV h.1 hx rfl,fun h2=>by rw[show s.online=false from h2]at ho;cases ho⟩
theorem lH{r:Int×EN}(h:jI r.2):jI (fe r).2:=by
 unfold fe;split<;>exact h
theorem Nq{s:EN}(h:jI s)(k:Int)(dn:ByteArray)(p:iI):jI (oQ s k dn p).2:=by
 unfold oQ
 repeat' split
 ·exact lH (I8 h p)
 ·exact lH (I9 h p)
 ·exact lH (Np h p)
 ·exact lH (Fv h dn p)
 ·exact lH (Fw h dn p)
 ·exact lH (Ja h dn p)
 ·exact h
end Go.Proofs.YtedcakchekaemaaGreatDoor
