import Derived.Test.YtedcakchekaemaaGreatDoorMn12
import Derived.Lib.Strings
set_option maxRecDepth 100000
set_option maxHeartbeats 16000000
set_option linter.all false
namespace Go.Proofs.YtedcakchekaemaaGreatDoor
open Go.RowKit
theorem xW(g nm:ByteArray)(w:World)(hg:g.toList.isEmpty=false)(hn:nm.toList.isEmpty=false):
  Calls Tryz.prog 93 #[.string g,.string nm] w fun e w'=> ∃n L,e=.returned (.tuple #[.pointer (some ⟨n,0,none⟩),.int .i64 0])/\au w' n g nm L ⟨false,0,0,false,false,[],[],[]⟩/\(∀x∈L.feet n,w.heap.size<=x)/\ai [] w w':=by
 have g1:(g.toList==[])=false:=by cases h:g.toList with|nil=>rw[h]at hg;cases hg|cons=>rfl
 have n1:(nm.toList==[])=false:=by cases h:nm.toList with|nil=>rw[h]at hn;cases hn|cons=>rfl
 go_enter Tryz.func93,Tryz.ntmps93
 go_wp2_with(first
  |(go_at_call 162;refine(Sq.new_any _).mono ?_;rintro e w2 ⟨rb,rfl,hR,hrb,hO2⟩;replace hR:=af hR;replace hrb:=af hrb;replace hO2:=af hO2)
  |(go_at_call 163;refine(new_any _).mono ?_;rintro e w3 ⟨tb,tm,rfl,hT,htb,yH,hO3⟩;replace hT:=af hT;replace htb:=af htb;replace yH:=af yH;replace hO3:=af hO3))
 go_ret2
 have s2:=hO2.out.size;have s3:=hO3.out.size;have l1:=aj hR.out.1;have l2:=hT.out.lt;have b1:=hrb.out;have b2:=htb.out;have b3:=yH.out;have hne:=hT.out.ne;have hA:ai [] w3 (w3.alloc (.cells #[.string g,.string nm,.bool false,.int .i64 0,.pointer (some ⟨rb,0,none⟩),.bool false,.slice none 0 0,.pointer (some ⟨tb,0,none⟩),.slice none 0 0] 159)):=(ai.refl _ _).alloc _;refine⟨w3.heap.size,⟨rb,tb,tm,none,0,.slice none 0 0,[]⟩,rfl,⟨heap_alloc_new _ _,(hR.out.own (hO3.out.trans hA) (by simp)),hT.out.own hA (by simp) (by simp),aI.nil _ _,Sl.nil _ _ _,rfl,fun i d x hd=>by simp at hd,?_,by simp⟩,fun x hx=>?_,(hO2.out.trans hO3.out).trans hA⟩
 ·simp only[EW.feet,bJ,Value.ownBlock,Option.map_none,Option.toList_none,List.flatMap_nil,List.append_nil,List.nodup_cons,List.mem_cons,List.not_mem_nil,or_false,not_or,List.nodup_nil,and_true,not_false_eq_true]
  omega
 ·simp only[EW.feet,bJ,Value.ownBlock,Option.map_none,Option.toList_none,List.flatMap_nil,List.append_nil,List.mem_cons,List.not_mem_nil,or_false]at hx
  omega
theorem qQ(x:Int)(w:World):Calls Tryz.prog 261 #[.int .i64 x] w fun e w'=>e=.returned (.int .i64 (jb x))/\w=w':=by
 unfold jb;by_cases h0:x=0
 ·subst h0
  go_enter Tryz.func261,Tryz.ntmps261
  go_wp2_with fail
  go_ret
  exact⟨rfl,rfl⟩
 ·have k0:(x==0)=false:=by simpa using h0
  rw[if_neg h0];by_cases h1:x=16
  ·subst h1
   go_enter Tryz.func261,Tryz.ntmps261
   go_wp2_with fail
   go_ret
   exact⟨rfl,rfl⟩
  ·have k1:(x==16)=false:=by simpa using h1
   rw[if_neg h1];go_enter Tryz.func261,Tryz.ntmps261
   go_wp2_with fail
   go_ret
   exact⟨rfl,rfl⟩
theorem KZ{w w5 w9 Vn:World}{n:Nat}{g nm:ByteArray}{L:EW}{s:EN}(h:au w n g nm L s){bd q:Int}{l:List bD}{al:dN}{tb tm:Nat}{a:Option Addr}{cap:Nat}(hO:ai [] w w5)(hT:sJ w5 tb tm al)(htb:w.heap.size<=tb)(yH:w.heap.size<=tm)
  (hR:aI w.heap.size w5 a cap l)(hlen:l.length<=32)(hal:al.length<=64)(hda: ∀b,a.map (·.block)=some b->b≠tb/\b≠tm)
  (h9:w9=(((((w5.setCell ⟨n,2,none⟩ (.bool true)).setCell ⟨n,3,none⟩ (.int .i64 bd)).setCell ⟨n,5,none⟩ (.bool false)).setCell ⟨n,6,none⟩ (.slice a l.length cap)).setCell ⟨n,7,none⟩ (.pointer (some ⟨tb,0,none⟩))).setCell ⟨n,8,none⟩ (.slice none 0 0))
  (oh:ai [L.rb] w9 Vn)(hrow:Sq.RowAt Vn L.rb q true): ∃L',au Vn n g nm L' ⟨true,bd,q,true,false,l,al,[]⟩/\ai (L.feet n) w Vn/\(∀x∈L'.feet n,x∈L.feet n\/w.heap.size<=x):=by
 obtain⟨f1,f2,f3,f4,f5⟩:=uU h;have hln:n<w.heap.size:=aj h.row;have hlr:L.rb<w.heap.size:=aj h.rrow.1;have o7:ai [n] w5 w9:=by
  subst h9;exact((((((ai.refl [n] w5).setCell (by simp) _).setCell (by simp) _).setCell (by simp) _).setCell (by simp) _).setCell (by simp) _).setCell (by simp) _
 have hr9:w9.heap[n]?=some (.cells (II g nm ⟨L.rb,tb,tm,a,cap,.slice none 0 0,[]⟩ ⟨true,bd,q,true,false,l,al,[]⟩) 159 (0,0)):=by
  subst h9;exact heap_setCell_same _ _ _ _ _ _ (heap_setCell_same _ _ _ _ _ _ (heap_setCell_same _ _ _ _ _ _ (heap_setCell_same _ _ _ _ _ _ (heap_setCell_same _ _ _ _ _ _ (heap_setCell_same _ _ _ _ _ _ (hO.heap h.row (by simp)))))))
 have hTt:=hT.lt;have hab: ∀b,a.map (·.block)=some b->w.heap.size<=b:=fun b hb=>by
  cases a with
  |none=>cases hb
  |some p=>cases hb;exact hR.fresh p rfl
 refine⟨⟨L.rb,tb,tm,a,cap,.slice none 0 0,[]⟩,⟨oh.heap hr9 (by simpa using f1),hrow,?_,?_,Sl.nil _ _ _,rfl,fun i d x hd=>by simp at hd,?_,⟨hlen,hal,by simp⟩⟩,?_,fun x hx=>?_⟩
 ·exact(hT.own o7 (by simp;omega) (by simp;omega)).own oh (by simp;omega) (by simp;omega)
 ·have hR2:=(hR.own' o7 (fun b hb=>by have:=hab b hb;simp;omega)).own' oh (fun b hb=>by have:=hab b hb;simp;omega)
  exact⟨hR2.own,fun q _=>Nat.zero_le _,hR2.good⟩
 ·have hne:=hT.ne
  simp only[EW.feet,Value.ownBlock,Option.toList_none,List.flatMap_nil,List.append_nil,List.nodup_cons,List.mem_cons,not_or];have hnd:(bJ a).Nodup:=by unfold bJ;cases a<;>simp
  have hm: ∀b,b∈bJ a->w.heap.size<=b/\b≠tb/\b≠tm:=fun b hb=>by
   unfold bJ at hb;have:=Option.mem_toList.1 hb;exact⟨hab b this,hda b this⟩
  refine⟨⟨f1,by omega,by omega,fun hx=>by have:=hm _ hx;omega⟩,⟨by omega,by omega,fun hx=>by have:=hm _ hx;omega⟩,⟨hne,fun hx=>(hm _ hx).2.1 rfl⟩,fun hx=>(hm _ hx).2.2 rfl,hnd⟩
 ·have h1:ai (L.feet n) w w9:=hO.nil.trans (o7.mono (fun x hx=>by simp at hx;subst hx;unfold EW.feet;simp))
  exact h1.trans (oh.mono (fun x hx=>by simp at hx;subst hx;unfold EW.feet;simp))
 ·simp only[EW.feet,Value.ownBlock,Option.toList_none,List.flatMap_nil,List.append_nil,List.mem_cons]at hx
  rcases hx with rfl|rfl|rfl|rfl|hx
  ·exact .inl (by unfold EW.feet;simp)
  ·exact .inl (by unfold EW.feet;simp)
  ·exact .inr htb
  ·exact .inr yH
  ·unfold bJ at hx
   exact .inr (hab _ (Option.mem_toList.1 hx))
def Jb(C:Int)(w:World)(a:Act)(w':World):Prop:= ∃u0 u1 u2 u3 u4 u5 u6 u7 u8 Mr Ms Mt Mv Mw Vg u16 Vh Vi Vj u20 u21 u22 u23 u24 u25 u26 u27 u28 u29 u30 u31 u32 u33 u34 u35 u36 u37 u38 Zq u40 Zr u42 Zt u44 u45 u46 Zu u48 u49 Zv u51 Zw u53 Zx u55 Zy Zz u58 u59 u60 ZA ZB u63 u64 ZC u66 ZE u68 u69 u70:Value,a=⟨#[u0,u1,u2,u3,u4,u5,u6,u7,u8,.int .i64 C,Mr,Ms,Mt,Mv,Mw,Vg,u16,Vh,Vi,Vj,u20,u21,u22,u23,u24,u25,u26,u27,u28,u29,u30,u31,u32,u33,u34,u35,u36,u37,u38,Zq,u40,Zr,u42,Zt,u44,u45,u46,Zu,u48,u49,Zv,u51,Zw,u53,Zx,u55,Zy,Zz,u58,u59,u60,ZA,ZB,u63,u64,ZC,u66,ZE,u68,u69,u70],[]⟩/\ai [] w w'
theorem K3(n:Nat)(g nm:ByteArray)(L:EW)(s:EN)(dn:ByteArray)(p:gT)(w:World)(h:au w n g nm L s)(hM:dR w p.a p.M)(h0:0<=p.s)(hE:jm w):
  Calls Tryz.prog 214 #[.pointer (some ⟨n,0,none⟩),.string dn,p.val] w (dD n g nm L (pW s p) w):=by
 have hW0:=dH w p;have hP:=fun W (ho:ai [] (dS w p) W)=>bC w p (S:=[]) (by simp) W ho
 have cB:=fun W (ho:ai [] w W)=>IC p W (hM.nil' ho)
 have cS:=fun W=>xA p W h0
 have cO:=fun W (ho:ai [] w W)=>zH p.a p.M p.c W (hM.nil' ho) (hE.nil ho)
 have hsq:=p.seq_ok h0;have hbl:=Cz p.M;have hsame:=fun W (ho:ai [] w W)=>h.same ho
 have hC:=fun W (ho:ai [] w W)=>aM h (S:=[]) (by simp) W ho
 have hrr:=fun W (ho:ai [n] w W)=>h.rrow.own ho (by simpa using(uU h).1.symm)
 unfold dD pW;unfold kD at cO;have hv:p.val=.agg #[.int .u64 p.t,.bool p.h,.int .u64 p.s,.string p.u,.string p.b,.slice p.a p.M.length p.c]:=rfl;rw[hv]at cB cS⊢;simp only[dS]at hW0 hP;generalize p.bd=bd at*;generalize p.seq=sq at*;generalize p.t=pt at*;generalize p.h=ph at*;generalize p.s=ps at*;generalize p.u=pu at*;generalize p.b=pb at*;generalize p.a=pa at*;generalize p.c=pc at*;generalize dx p.M=bo at*;generalize p.M.length=pl at*;obtain⟨bd1,bd2⟩:=bd;obtain⟨WV,sq2⟩:=sq;obtain⟨X4,Xc⟩:=bo;simp only at*;obtain⟨q0,q1,q2,q3,q4,q5⟩:=hP _ (ai.refl _ _);clear hv hM hE h0;change Hid _ at hP cB cS cO hsame hC hrr;replace hW0:=af hW0;cases bd2 with
 |false=>
  rw[if_pos rfl];clear h;go_enter Tryz.func214,Tryz.ntmps214
  go_wp2_with fail
  refine wp_scope_jumps 0 (Jb 9 w) (fun _ _=>0) (by rfl) ?_ ?_
  ·go_wp2_with(first
   |(go_at_call 163;refine(new_any _).mono ?_;rintro e w1 ⟨tb,tm,rfl,hT1,htb,yH,aH⟩;have hX1:=hW0.out.trans aH;obtain⟨q0,q1,q2,q3,q4,q5⟩:=hP.out _ aH;have cB1:=af (cB.out _ hX1);replace aH:=af aH;replace hX1:=af hX1;replace hT1:=af hT1;replace htb:=af htb;replace yH:=af yH)
   |(go_at_call 258;(with_reducible refine cB1.out.mono ?_);rintro e w2 ⟨rfl,hO2⟩;have hY2:=aH.out.trans hO2;have hX2:=hX1.out.trans hO2;obtain⟨r0,r1,r2,r3,r4,r5⟩:=hP.out _ hY2;have cS2:=af (cS.out w2);have lC:=af (hT1.out.own hO2 (by simp) (by simp));replace hO2:=af hO2;replace hX2:=af hX2;replace hY2:=af hY2))
   go_step3
   exact⟨rfl,_,_,_,_,_,_,_,_,_,_,_,_,_,_,_,_,_,_,_,_,_,_,_,_,_,_,_,_,_,_,_,_,_,_,_,_,_,_,_,_,_,_,_,_,_,_,_,_,_,_,_,_,_,_,_,_,_,_,_,_,_,_,_,_,_,_,_,_,_,_,rfl,hX2.out⟩
  ·rintro a9 w9 ⟨u0,u1,u2,u3,u4,u5,u6,u7,u8,Mr,Ms,Mt,Mv,Mw,Vg,u16,Vh,Vi,Vj,u20,u21,u22,u23,u24,u25,u26,u27,u28,u29,u30,u31,u32,u33,u34,u35,u36,u37,u38,Zq,u40,Zr,u42,Zt,u44,u45,u46,Zu,u48,u49,Zv,u51,Zw,u53,Zx,u55,Zy,Zz,u58,u59,u60,ZA,ZB,u63,u64,ZC,u66,ZE,u68,u69,u70,rfl,hJ⟩
   change Hid _ at hJ;go_wp2_with fail
   simp only[Exit.jump];go_ret
   exact⟨rfl,hsame.out _ hJ.out⟩
 |true=>
  rw[if_neg (by simp)];cases sq2 with
  |false=>
   rw[if_pos rfl];clear h;go_enter Tryz.func214,Tryz.ntmps214
   go_wp2_with fail
   refine wp_scope_jumps 0 (Jb 4 w) (fun _ _=>0) (by rfl) ?_ ?_
   ·go_wp2_with(first
    |(go_at_call 163;refine(new_any _).mono ?_;rintro e w1 ⟨tb,tm,rfl,hT1,htb,yH,aH⟩;have hX1:=hW0.out.trans aH;obtain⟨q0,q1,q2,q3,q4,q5⟩:=hP.out _ aH;have cB1:=af (cB.out _ hX1);replace aH:=af aH;replace hX1:=af hX1;replace hT1:=af hT1;replace htb:=af htb;replace yH:=af yH)
    |(go_at_call 258;(with_reducible refine cB1.out.mono ?_);rintro e w2 ⟨rfl,hO2⟩;have hY2:=aH.out.trans hO2;have hX2:=hX1.out.trans hO2;obtain⟨r0,r1,r2,r3,r4,r5⟩:=hP.out _ hY2;have cS2:=af (cS.out w2);have lC:=af (hT1.out.own hO2 (by simp) (by simp));replace hO2:=af hO2;replace hX2:=af hX2;replace hY2:=af hY2)
    |(go_at_call 259;(with_reducible refine cS2.out.mono ?_);rintro e w3 ⟨rfl,hO3⟩;have Ic:=hY2.out.trans hO3;have eT:=hX2.out.trans hO3;obtain⟨t0,t1,t2,t3,t4,t5⟩:=hP.out _ Ic;have X5:=af (cO.out _ eT);have UD:=af (lC.out.own hO3 (by simp) (by simp));replace hO3:=af hO3;replace eT:=af eT;replace Ic:=af Ic))
    go_step3
    exact⟨rfl,_,_,_,_,_,_,_,_,_,_,_,_,_,_,_,_,_,_,_,_,_,_,_,_,_,_,_,_,_,_,_,_,_,_,_,_,_,_,_,_,_,_,_,_,_,_,_,_,_,_,_,_,_,_,_,_,_,_,_,_,_,_,_,_,_,_,_,_,_,_,rfl,eT.out⟩
   ·rintro a9 w9 ⟨u0,u1,u2,u3,u4,u5,u6,u7,u8,Mr,Ms,Mt,Mv,Mw,Vg,u16,Vh,Vi,Vj,u20,u21,u22,u23,u24,u25,u26,u27,u28,u29,u30,u31,u32,u33,u34,u35,u36,u37,u38,Zq,u40,Zr,u42,Zt,u44,u45,u46,Zu,u48,u49,Zv,u51,Zw,u53,Zx,u55,Zy,Zz,u58,u59,u60,ZA,ZB,u63,u64,ZC,u66,ZE,u68,u69,u70,rfl,hJ⟩
    change Hid _ at hJ;go_wp2_with fail
    simp only[Exit.jump];go_ret
    exact⟨rfl,hsame.out _ hJ.out⟩
  |true=>
   rw[if_neg (by simp)];by_cases hb:X4=1
   ·subst hb
    rw[if_neg (by simp)];have hal:=tq [] ig Xc (by simp);obtain⟨⟨st1,st2⟩,hst⟩: ∃st,oD [] ig Xc=st:=⟨_,rfl⟩;rw[hst]at hal⊢;simp only at hal⊢;change Hid _ at hst;by_cases hc:jb st1=1
    ·rw[if_neg (by simp[hc])]
     have cR:=fun W (hw:Sq.RowAt W L.rb s.want s.begun)=>Sq.begin_any L.rb s.want s.begun WV W hw
     have hsb:Sq.sBegin s.want s.begun WV=(0,(WV+1)%256,true):=by unfold Sq.sBegin;rw[if_pos hsq]
     rw[hsb]at cR;unfold Sq.RowPost at cR;have hcb:(jb st1 !=1)=false:=by simp[hc]
     change Hid _ at h cR hal;have QO:=af hbl;change Hid _ at hc;clear hsb;go_enter Tryz.func214,Tryz.ntmps214
     go_wp2_with fail
     go_step3
     go_wp2_with(first
      |(go_at_call 163;refine(new_any _).mono ?_;rintro e w1 ⟨tb,tm,rfl,hT1,htb,yH,aH⟩;have hX1:=hW0.out.trans aH;obtain⟨q0,q1,q2,q3,q4,q5⟩:=hP.out _ aH;have cB1:=af (cB.out _ hX1);replace aH:=af aH;replace hX1:=af hX1;replace hT1:=af hT1;replace htb:=af htb;replace yH:=af yH)
      |(go_at_call 258;(with_reducible refine cB1.out.mono ?_);rintro e w2 ⟨rfl,hO2⟩;have hY2:=aH.out.trans hO2;have hX2:=hX1.out.trans hO2;obtain⟨r0,r1,r2,r3,r4,r5⟩:=hP.out _ hY2;have cS2:=af (cS.out w2);have lC:=af (hT1.out.own hO2 (by simp) (by simp));replace hO2:=af hO2;replace hX2:=af hX2;replace hY2:=af hY2)
      |(go_at_call 259;(with_reducible refine cS2.out.mono ?_);rintro e w3 ⟨rfl,hO3⟩;have Ic:=hY2.out.trans hO3;have eT:=hX2.out.trans hO3;obtain⟨t0,t1,t2,t3,t4,t5⟩:=hP.out _ Ic;have X5:=af (cO.out _ eT);have UD:=af (lC.out.own hO3 (by simp) (by simp));replace hO3:=af hO3;replace eT:=af eT;replace Ic:=af Ic)
      |(go_at_call 260;(with_reducible refine X5.out.mono ?_);(rintro e w4 ⟨a,cap,rfl,oN,hO4⟩;have oP:=eT.out.trans hO4;have Rh:=UD.out.own hO4 (by simp) (by simp);have Ie:=AB tb tm [] ig a Xc.length cap (dJ Xc) w4 Rh (oG (oN.at_ (by omega))) (by simp);rw[lN,hst.out]at Ie;unfold ig at Ie;simp only at Ie;replace Ie:=af Ie;have hda:=UD.out.lt;replace hda:=af hda;replace Rh:=af Rh;replace oN:=af oN;replace hO4:=af hO4;replace oP:=af oP))
      |(go_at_call 262;(with_reducible refine Ie.out.mono ?_);rintro e w5 ⟨rfl,MN,aB⟩;have gW:ai [] w w5:=oP.out.trans' aB (fun x hx=>.inr (by simp at hx;subst hx;exact Nat.le_trans hW0.out.size yH.out));obtain⟨⟨k2,k3,k4,k5,k6,k7,k8⟩,f2,f3,f5,f6,f7,f8⟩:=hC.out _ gW;replace MN:=af MN;replace aB:=af aB;replace gW:=af gW)
      |(go_at_call 261;(with_reducible refine(qQ _ _).mono ?_);rintro e w6 ⟨rfl,rfl⟩)
      |(go_at_call 263;refine(cR.out _ (hrr.out _ (gW.out.nil.trans (by repeat(first|exact ai.refl _ _|refine ai.setCell ?_ (by simp) _))))).mono ?_;rintro e Vn ⟨rfl,H6,oh⟩;replace H6:=af H6;replace oh:=af oh))
     go_step3
     go_wp2_with fail
     rw[Exit.noGoto_ret];go_ret
     have hz:=eT.out.size;refine⟨show Ending.returned (.int .i64 (jb st1))=_ by rw[hc.out],KZ h.out gW.out MN.out (Nat.le_trans hW0.out.size htb.out) (Nat.le_trans hW0.out.size yH.out) ?_ QO.out hal.out ?_ rfl oh.out H6.out⟩
     ·have om:=oN.out.own' aB.out (fun b hb=>by
       have h1:=hda.out;have h2:w3.heap.size<=b:=by
        cases a with
        |none=>cases hb
        |some q=>cases hb;exact oN.out.fresh q rfl
       simp;omega)
      exact⟨om.own,fun q hq=>Nat.le_trans hz (om.fresh q hq),om.good⟩
     ·intro b hb
      have h1:=hda.out;have h2:w3.heap.size<=b:=by
       cases a with
       |none=>cases hb
       |some q=>cases hb;exact oN.out.fresh q rfl
      omega
    ·rw[if_pos hc]
     have hcb:(jb st1 !=1)=true:=by simpa using hc
     clear hc h;go_enter Tryz.func214,Tryz.ntmps214
     go_wp2_with fail
     refine wp_scope_jumps 0 (Jb (jb st1) w) (fun _ _=>0) (by rfl) ?_ ?_
     ·go_wp2_with(first
      |(go_at_call 163;refine(new_any _).mono ?_;rintro e w1 ⟨tb,tm,rfl,hT1,htb,yH,aH⟩;have hX1:=hW0.out.trans aH;obtain⟨q0,q1,q2,q3,q4,q5⟩:=hP.out _ aH;have cB1:=af (cB.out _ hX1);replace aH:=af aH;replace hX1:=af hX1;replace hT1:=af hT1;replace htb:=af htb;replace yH:=af yH)
      |(go_at_call 258;(with_reducible refine cB1.out.mono ?_);rintro e w2 ⟨rfl,hO2⟩;have hY2:=aH.out.trans hO2;have hX2:=hX1.out.trans hO2;obtain⟨r0,r1,r2,r3,r4,r5⟩:=hP.out _ hY2;have cS2:=af (cS.out w2);have lC:=af (hT1.out.own hO2 (by simp) (by simp));replace hO2:=af hO2;replace hX2:=af hX2;replace hY2:=af hY2)
      |(go_at_call 259;(with_reducible refine cS2.out.mono ?_);rintro e w3 ⟨rfl,hO3⟩;have Ic:=hY2.out.trans hO3;have eT:=hX2.out.trans hO3;obtain⟨t0,t1,t2,t3,t4,t5⟩:=hP.out _ Ic;have X5:=af (cO.out _ eT);have UD:=af (lC.out.own hO3 (by simp) (by simp));replace hO3:=af hO3;replace eT:=af eT;replace Ic:=af Ic)
      |(go_at_call 260;(with_reducible refine X5.out.mono ?_);(rintro e w4 ⟨a,cap,rfl,oN,hO4⟩;have oP:=eT.out.trans hO4;have Rh:=UD.out.own hO4 (by simp) (by simp);have Ie:=AB tb tm [] ig a Xc.length cap (dJ Xc) w4 Rh (oG (oN.at_ (by omega))) (by simp);rw[lN,hst.out]at Ie;unfold ig at Ie;simp only at Ie;replace Ie:=af Ie;have hda:=UD.out.lt;replace hda:=af hda;replace Rh:=af Rh;replace oN:=af oN;replace hO4:=af hO4;replace oP:=af oP))
      |(go_at_call 262;(with_reducible refine Ie.out.mono ?_);rintro e w5 ⟨rfl,MN,aB⟩;have gW:ai [] w w5:=oP.out.trans' aB (fun x hx=>.inr (by simp at hx;subst hx;exact Nat.le_trans hW0.out.size yH.out));obtain⟨⟨k2,k3,k4,k5,k6,k7,k8⟩,f2,f3,f5,f6,f7,f8⟩:=hC.out _ gW;replace MN:=af MN;replace aB:=af aB;replace gW:=af gW)
      |(go_at_call 261;(with_reducible refine(qQ _ _).mono ?_);rintro e w6 ⟨rfl,rfl⟩))
      go_step3
      exact⟨rfl,_,_,_,_,_,_,_,_,_,_,_,_,_,_,_,_,_,_,_,_,_,_,_,_,_,_,_,_,_,_,_,_,_,_,_,_,_,_,_,_,_,_,_,_,_,_,_,_,_,_,_,_,_,_,_,_,_,_,_,_,_,_,_,_,_,_,_,_,_,_,rfl,gW.out⟩
     ·rintro a9 w9 ⟨u0,u1,u2,u3,u4,u5,u6,u7,u8,Mr,Ms,Mt,Mv,Mw,Vg,u16,Vh,Vi,Vj,u20,u21,u22,u23,u24,u25,u26,u27,u28,u29,u30,u31,u32,u33,u34,u35,u36,u37,u38,Zq,u40,Zr,u42,Zt,u44,u45,u46,Zu,u48,u49,Zv,u51,Zw,u53,Zx,u55,Zy,Zz,u58,u59,u60,ZA,ZB,u63,u64,ZC,u66,ZE,u68,u69,u70,rfl,hJ⟩
      change Hid _ at hJ;go_wp2_with fail
      simp only[Exit.jump];go_ret
      exact⟨rfl,hsame.out _ hJ.out⟩
   ·rw[if_pos hb]
    have hbb:(X4 !=1)=true:=by simpa using hb
    clear hb h;go_enter Tryz.func214,Tryz.ntmps214
    go_wp2_with fail
    refine wp_scope_jumps 0 (Jb X4 w) (fun _ _=>0) (by rfl) ?_ ?_
    ·go_wp2_with(first
     |(go_at_call 163;refine(new_any _).mono ?_;rintro e w1 ⟨tb,tm,rfl,hT1,htb,yH,aH⟩;have hX1:=hW0.out.trans aH;obtain⟨q0,q1,q2,q3,q4,q5⟩:=hP.out _ aH;have cB1:=af (cB.out _ hX1);replace aH:=af aH;replace hX1:=af hX1;replace hT1:=af hT1;replace htb:=af htb;replace yH:=af yH)
     |(go_at_call 258;(with_reducible refine cB1.out.mono ?_);rintro e w2 ⟨rfl,hO2⟩;have hY2:=aH.out.trans hO2;have hX2:=hX1.out.trans hO2;obtain⟨r0,r1,r2,r3,r4,r5⟩:=hP.out _ hY2;have cS2:=af (cS.out w2);have lC:=af (hT1.out.own hO2 (by simp) (by simp));replace hO2:=af hO2;replace hX2:=af hX2;replace hY2:=af hY2)
     |(go_at_call 259;(with_reducible refine cS2.out.mono ?_);rintro e w3 ⟨rfl,hO3⟩;have Ic:=hY2.out.trans hO3;have eT:=hX2.out.trans hO3;obtain⟨t0,t1,t2,t3,t4,t5⟩:=hP.out _ Ic;have X5:=af (cO.out _ eT);have UD:=af (lC.out.own hO3 (by simp) (by simp));replace hO3:=af hO3;replace eT:=af eT;replace Ic:=af Ic)
     |(go_at_call 260;(with_reducible refine X5.out.mono ?_);(rintro e w4 ⟨a,cap,rfl,oN,hO4⟩;have oP:=eT.out.trans hO4;have Rh:=UD.out.own hO4 (by simp) (by simp);have hda:=UD.out.lt;replace hda:=af hda;replace Rh:=af Rh;replace oN:=af oN;replace hO4:=af hO4;replace oP:=af oP)))
     go_step3
     exact⟨rfl,_,_,_,_,_,_,_,_,_,_,_,_,_,_,_,_,_,_,_,_,_,_,_,_,_,_,_,_,_,_,_,_,_,_,_,_,_,_,_,_,_,_,_,_,_,_,_,_,_,_,_,_,_,_,_,_,_,_,_,_,_,_,_,_,_,_,_,_,_,_,rfl,oP.out⟩
    ·rintro a9 w9 ⟨u0,u1,u2,u3,u4,u5,u6,u7,u8,Mr,Ms,Mt,Mv,Mw,Vg,u16,Vh,Vi,Vj,u20,u21,u22,u23,u24,u25,u26,u27,u28,u29,u30,u31,u32,u33,u34,u35,u36,u37,u38,Zq,u40,Zr,u42,Zt,u44,u45,u46,Zu,u48,u49,Zv,u51,Zw,u53,Zx,u55,Zy,Zz,u58,u59,u60,ZA,ZB,u63,u64,ZC,u66,ZE,u68,u69,u70,rfl,hJ⟩
     change Hid _ at hJ;go_wp2_with fail
     simp only[Exit.jump];go_ret
     exact⟨rfl,hsame.out _ hJ.out⟩
def fG(k:Int):ByteArray:=if k=1 then⟨#[78,66,73,82,84,72]⟩else if k=2 then⟨#[78,68,69,65,84,72]⟩else if k=3 then⟨#[78,68,65,84,65]⟩else if k=4 then⟨#[78,67,77,68]⟩
 else if k=5 then⟨#[68,66,73,82,84,72]⟩else if k=6 then⟨#[68,68,69,65,84,72]⟩else if k=7 then⟨#[68,68,65,84,65]⟩else if k=8 then⟨#[68,67,77,68]⟩else if k=9 then⟨#[83,84,65,84,69]⟩else⟨#[]⟩
def dz(w:World):Prop:= ∀k:Nat,k<10->w.cell? ⟨0,k,none⟩=some (.string (fG k))
theorem dz.own{w w':World}(h:dz w)(ho:ai [] w w'):dz w':=fun k hk=>(ho.cell (block_lt_of_cell (h k hk)) (by simp)).trans (h k hk)
def wO(w:ByteArray):Nat->Nat->Int
 |0,_=>0
 |f+1,k=>if fG k=w then k else wO w f (k+1)
def lY(w:ByteArray):Int:=wO w 9 1
theorem Nc(x:ByteArray)(w:World)(hW:dz w):Calls Tryz.prog 85 #[.string x] w fun e w'=>e=.returned (.int .i64 (lY x))/\w=w':=by
 obtain⟨R,hR⟩: ∃R,lY x=R:=⟨_,rfl⟩;rw[hR];have hst:=af (show wO x 9 1=R from hR);change Hid _ at hW;clear hR;go_enter Tryz.func85,Tryz.ntmps85
 go_wp2_with fail
 go_loopg[3] 9 (fun g s3 wr=> ∃k:Nat,s3=.int .i64 k/\k+g=10/\Aside (wr=w/\wO x g k=R))
 case atStart=>exact⟨1,rfl,rfl,rfl,hst.out⟩
 case round=>
  obtain⟨k,rfl,hg,rfl,hF⟩:=hrel;have hw1:IntKind.i64.wrap ((k:Int)+1)=((k+1:Nat):Int):=by rw[IntKind.wrap_i64];omega
  clear hst;by_cases hlt:k<10
  ·have k1:(k:Int)<=9:=by omega
   have k0:(0:Int)<=k:=by omega
   have k2:(k:Int)<10:=by omega
   have c0:=hW.out k hlt;obtain⟨g,rfl⟩: ∃g0,gk=g0+1:=⟨gk-1,by omega⟩;unfold wO at hF;by_cases hx:fG k=x
   ·rw[if_pos hx]at hF
    have q1:((fG (k:Int)).toList==x.toList)=true:=by rw[hx];simp
    subst hF;subst hx;change Hid _ at hg;go_wp2_with fail
    go_ret
    exact⟨rfl,rfl⟩
   ·rw[if_neg hx]at hF
    have q1:((fG (k:Int)).toList==x.toList)=false:=by
     simp only[beq_eq_false_iff_ne];intro h;exact hx (by rw[Lib.toList_data,Lib.toList_data]at h;exact ByteArray.ext (Array.ext' h))
    change Hid _ at hg hF;clear hx;go_wp2_with fail
    go_roundg g
    case rel=>exact⟨k+1,by go_num,by have:=hg.out;omega,rfl,hF.out⟩
    case measure=>omega
  ·have k1: ¬(k:Int)<=9:=by omega
   obtain rfl:gk=0:=by omega
   have hF0:(0:Int)=R:=hF;subst hF0;clear hF hg;go_wp2_with fail
   go_ret
   exact⟨rfl,rfl⟩
theorem BQ(k:Int)(h:k<0\/9<k):fG k=⟨#[]⟩:=by
 unfold fG;rw[if_neg (by omega),if_neg (by omega),if_neg (by omega),if_neg (by omega),if_neg (by omega),if_neg (by omega),if_neg (by omega),if_neg (by omega),if_neg (by omega)]
theorem EL(k:Int)(w:World)(hW:dz w):Calls Tryz.prog 157 #[.int .i64 k] w fun e w'=>e=.returned (.string (fG k))/\w=w':=by
 by_cases h0:k<0
 ·rw[BQ k (.inl h0)]
  go_enter Tryz.func157,Tryz.ntmps157
  go_wp2_with fail
  go_ret
  exact⟨rfl,rfl⟩
 ·by_cases h9:9<k
  ·rw[BQ k (.inr h9)]
   go_enter Tryz.func157,Tryz.ntmps157
   go_wp2_with fail
   go_ret
   exact⟨rfl,rfl⟩
  ·obtain⟨n,rfl⟩:=Int.eq_ofNat_of_zero_le (show 0<=k by omega)
   have c0:=hW n (by omega);have k2:(n:Int)<10:=by omega
   change Hid _ at hW;go_enter Tryz.func157,Tryz.ntmps157
   go_wp2_with fail
   go_ret
   exact⟨rfl,rfl⟩
def gK(k:Int):Int:=if k=9 then 3 else if 5<=k then 5 else 4
theorem zq(k:Int)(w:World):Calls Tryz.prog 87 #[.int .i64 k] w fun e w'=>e=.returned (.int .i64 (gK k))/\w=w':=by
 unfold gK;by_cases h9:k=9
 ·subst h9
  rw[if_pos rfl];go_enter Tryz.func87,Tryz.ntmps87
  go_wp2_with fail
  go_ret
  exact⟨rfl,rfl⟩
 ·rw[if_neg h9]
  have q1:(k==9)=false:=by simpa using h9
  by_cases h5:5<=k
  ·rw[if_pos h5]
   have q2:decide (5<=k)=true:=by simpa using h5
   go_enter Tryz.func87,Tryz.ntmps87
   go_wp2_with fail
   go_ret
   exact⟨rfl,rfl⟩
  ·rw[if_neg h5]
   have q2:decide (5<=k)=false:=by simpa using h5
   go_enter Tryz.func87,Tryz.ntmps87
   go_wp2_with fail
   go_ret
   exact⟨rfl,rfl⟩
end Go.Proofs.YtedcakchekaemaaGreatDoor
