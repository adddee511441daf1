/- Contracts of the program, part 15. -/
import Derived.Test.YtedcakchekaemaaGreatDoorMp12
import Derived.Test.YtedcakchekaemaaGreatDoorMp13
set_option maxRecDepth 100000
set_option maxHeartbeats 16000000
set_option linter.all false
namespace Go.Proofs.YtedcakchekaemaaGreatDoor
open Go.RowKit
theorem zF(g nm:ByteArray)(w:World)(hg:g.toList.isEmpty=false)(hn:nm.toList.isEmpty=false):
  Calls Tryz.prog 93 #[.string g,.string nm] w fun e w'=> ∃n L,e=.returned (.tuple #[.pointer (some ⟨n,0,none⟩),.int .i64 0])/\au w' n g nm L ⟨false,0,0,false,false,[],[],[]⟩/\(∀x∈L.feet n,w.heap.size<=x)/\ai [] w w':=by
 have g1:(g.toList==[])=false:=by cases h:g.toList with|nil=>rw[h]at hg;cases hg|cons=>rfl
 have n1:(nm.toList==[])=false:=by cases h:nm.toList with|nil=>rw[h]at hn;cases hn|cons=>rfl
 go_enter Tryz.func93,Tryz.ntmps93
 go_wp2_with(first
  |(go_at_call 162;refine(Sq.new_any _).mono ?_;rintro e w2 ⟨rb,rfl,hR,hrb,hO2⟩;replace hR:=af hR;replace hrb:=af hrb;replace hO2:=af hO2)
  |(go_at_call 163;refine(new_any _).mono ?_;rintro e w3 ⟨tb,tm,rfl,hT,htb,zY,hO3⟩;replace hT:=af hT;replace htb:=af htb;replace zY:=af zY;replace hO3:=af hO3))
 go_ret2
 have s2:=hO2.out.size;have s3:=hO3.out.size;have l1:=aj hR.out.1;have l2:=hT.out.lt;have b1:=hrb.out;have b2:=htb.out;have b3:=zY.out;have hne:=hT.out.ne;have hA:ai [] w3 (w3.alloc (.cells #[.string g,.string nm,.bool false,.int .i64 0,.pointer (some ⟨rb,0,none⟩),.bool false,.slice none 0 0,.pointer (some ⟨tb,0,none⟩),.slice none 0 0] 159)):=(ai.refl _ _).alloc _;refine⟨w3.heap.size,⟨rb,tb,tm,none,0,.slice none 0 0,[]⟩,rfl,⟨heap_alloc_new _ _,(hR.out.own (hO3.out.trans hA) (by simp)),hT.out.own hA (by simp) (by simp),aM.nil _ _,Sl.nil _ _ _,rfl,fun i d x hd=>by simp at hd,?_,by simp⟩,fun x hx=>?_,(hO2.out.trans hO3.out).trans hA⟩
 ·simp only[EW.feet,bP,Value.ownBlock,Option.map_none,Option.toList_none,List.flatMap_nil,List.append_nil,List.nodup_cons,List.mem_cons,List.not_mem_nil,or_false,not_or,List.nodup_nil,and_true,not_false_eq_true]
  omega
 ·simp only[EW.feet,bP,Value.ownBlock,Option.map_none,Option.toList_none,List.flatMap_nil,List.append_nil,List.mem_cons,List.not_mem_nil,or_false]at hx
  omega
theorem sO(x:Int)(w:World):Calls Tryz.prog 261 #[.int .i64 x] w fun e w'=>e=.returned (.int .i64 (jA x))/\w=w':=by
 unfold jA;by_cases h0:x=0
 ·subst h0
  go_enter Tryz.func261,Tryz.ntmps261
  go_wp2_with fail
  go_ret
  exact⟨rfl,rfl⟩
 ·have k0:(x==0)=false:=by simpa using h0
  rw[if_neg h0];by_cases h1:x=16
  ·subst h1
   go_enter Tryz.func261,Tryz.ntmps261
   go_wp2_with fail
   go_ret
   exact⟨rfl,rfl⟩
  ·have k1:(x==16)=false:=by simpa using h1
   rw[if_neg h1];go_enter Tryz.func261,Tryz.ntmps261
   go_wp2_with fail
   go_ret
   exact⟨rfl,rfl⟩
theorem M7{w w5 w9 Y8:World}{n:Nat}{g nm:ByteArray}{L:EW}{s:EN}(h:au w n g nm L s){bd q:Int}{l:List bJ}{al:dY}{tb tm:Nat}{a:Option Addr}{cap:Nat}(hO:ai [] w w5)(hT:uS w5 tb tm al)(htb:w.heap.size<=tb)(zY:w.heap.size<=tm)
  (hR:aM w.heap.size w5 a cap l)(hlen:l.length<=32)(hal:al.length<=64)(hda: ∀b,a.map (·.block)=some b->b≠tb/\b≠tm)
  (h9:w9=(((((w5.setCell ⟨n,2,none⟩ (.bool true)).setCell ⟨n,3,none⟩ (.int .i64 bd)).setCell ⟨n,5,none⟩ (.bool false)).setCell ⟨n,6,none⟩ (.slice a l.length cap)).setCell ⟨n,7,none⟩ (.pointer (some ⟨tb,0,none⟩))).setCell ⟨n,8,none⟩ (.slice none 0 0))
  (pz:ai [L.rb] w9 Y8)(hrow:Sq.RowAt Y8 L.rb q true): ∃L',au Y8 n g nm L' ⟨true,bd,q,true,false,l,al,[]⟩/\ai (L.feet n) w Y8/\(∀x∈L'.feet n,x∈L.feet n\/w.heap.size<=x):=by
 obtain⟨f1,f2,f3,f4,f5⟩:=wT h;have hln:n<w.heap.size:=aj h.row;have hlr:L.rb<w.heap.size:=aj h.rrow.1;have mU:ai [n] w5 w9:=by
  subst h9;exact((((((ai.refl [n] w5).setCell (by simp) _).setCell (by simp) _).setCell (by simp) _).setCell (by simp) _).setCell (by simp) _).setCell (by simp) _
 have hr9:w9.heap[n]?=some (.cells (Kv g nm ⟨L.rb,tb,tm,a,cap,.slice none 0 0,[]⟩ ⟨true,bd,q,true,false,l,al,[]⟩) 159 (0,0)):=by
  subst h9;exact heap_setCell_same _ _ _ _ _ _ (heap_setCell_same _ _ _ _ _ _ (heap_setCell_same _ _ _ _ _ _ (heap_setCell_same _ _ _ _ _ _ (heap_setCell_same _ _ _ _ _ _ (heap_setCell_same _ _ _ _ _ _ (hO.heap h.row (by simp)))))))
 have hTt:=hT.lt;have hab: ∀b,a.map (·.block)=some b->w.heap.size<=b:=fun b hb=>by
  cases a with
  |none=>cases hb
  |some p=>cases hb;exact hR.fresh p rfl
 refine⟨⟨L.rb,tb,tm,a,cap,.slice none 0 0,[]⟩,⟨pz.heap hr9 (by simpa using f1),hrow,?_,?_,Sl.nil _ _ _,rfl,fun i d x hd=>by simp at hd,?_,⟨hlen,hal,by simp⟩⟩,?_,fun x hx=>?_⟩
 ·exact(hT.own mU (by simp;omega) (by simp;omega)).own pz (by simp;omega) (by simp;omega)
 ·have hR2:=(hR.own' mU (fun b hb=>by have:=hab b hb;simp;omega)).own' pz (fun b hb=>by have:=hab b hb;simp;omega)
  exact⟨hR2.own,fun q _=>Nat.zero_le _,hR2.good⟩
 ·have hne:=hT.ne
  simp only[EW.feet,Value.ownBlock,Option.toList_none,List.flatMap_nil,List.append_nil,List.nodup_cons,List.mem_cons,not_or];have hnd:(bP a).Nodup:=by unfold bP;cases a<;>simp
  have hm: ∀b,b∈bP a->w.heap.size<=b/\b≠tb/\b≠tm:=fun b hb=>by
   unfold bP at hb;have:=Option.mem_toList.1 hb;exact⟨hab b this,hda b this⟩
  refine⟨⟨f1,by omega,by omega,fun hx=>by have:=hm _ hx;omega⟩,⟨by omega,by omega,fun hx=>by have:=hm _ hx;omega⟩,⟨hne,fun hx=>(hm _ hx).2.1 rfl⟩,fun hx=>(hm _ hx).2.2 rfl,hnd⟩
 ·have h1:ai (L.feet n) w w9:=hO.nil.trans (mU.mono (fun x hx=>by simp at hx;subst hx;unfold EW.feet;simp))
  exact h1.trans (pz.mono (fun x hx=>by simp at hx;subst hx;unfold EW.feet;simp))
 ·simp only[EW.feet,Value.ownBlock,Option.toList_none,List.flatMap_nil,List.append_nil,List.mem_cons]at hx
  rcases hx with rfl|rfl|rfl|rfl|hx
  ·exact .inl (by unfold EW.feet;simp)
  ·exact .inl (by unfold EW.feet;simp)
  ·exact .inr htb
  ·exact .inr zY
  ·unfold bP at hx
   exact .inr (hab _ (Option.mem_toList.1 hx))
def Jb(C:Int)(w:World)(a:Act)(w':World):Prop:= ∃u0 u1 u2 u3 u4 u5 u6 u7 u8 Ow Ox Oy Oz OA YZ u16 Y0 Y1 Y2 u20 u21 u22 u23 u24 u25 u26 u27 u28 u29 u30 u31 u32 u33 u34 u35 u36 u37 u38 u39 u40 u41 u42 u43 u44 u45 u46 u47 u48 u49 u50 u51 u52 u53 u54 u55 u56 u57 u58 u59 u60 u61 u62 u63 u64 u65 u66 u67 u68 u69 u70:Value,a=⟨#[u0,u1,u2,u3,u4,u5,u6,u7,u8,.int .i64 C,Ow,Ox,Oy,Oz,OA,YZ,u16,Y0,Y1,Y2,u20,u21,u22,u23,u24,u25,u26,u27,u28,u29,u30,u31,u32,u33,u34,u35,u36,u37,u38,u39,u40,u41,u42,u43,u44,u45,u46,u47,u48,u49,u50,u51,u52,u53,u54,u55,u56,u57,u58,u59,u60,u61,u62,u63,u64,u65,u66,u67,u68,u69,u70],[]⟩/\ai [] w w'
theorem M8(n:Nat)(g nm:ByteArray)(L:EW)(s:EN)(dn:ByteArray)(p:iI)(w:World)(h:au w n g nm L s)(hM:eF w p.a p.M)(h0:0<=p.s)(hE:jP w):
  Calls Tryz.prog 214 #[.pointer (some ⟨n,0,none⟩),.string dn,p.val] w (dQ n g nm L (pU s p) w):=by
 have hW0:=dS w p;have hP:=fun W (ho:ai [] (eG w p) W)=>bH w p (S:=[]) (by simp) W ho
 have cB:=fun W (ho:ai [] w W)=>Kq p W (hM.nil' ho)
 have cS:=fun W=>za p W h0
 have cO:=fun W (ho:ai [] w W)=>Ba p.a p.M p.c W (hM.nil' ho) (hE.nil ho)
 have hsq:=p.seq_ok h0;have hbl:=Ej p.M;have hsame:=fun W (ho:ai [] w W)=>h.same ho
 have hC:=fun W (ho:ai [] w W)=>aR h (S:=[]) (by simp) W ho
 have hrr:=fun W (ho:ai [n] w W)=>h.rrow.own ho (by simpa using(wT h).1.symm)
 unfold dQ pU;unfold lD at cO;have hv:p.val=.agg #[.int .u64 p.t,.bool p.h,.int .u64 p.s,.string p.u,.string p.b,.slice p.a p.M.length p.c]:=rfl;rw[hv]at cB cS⊢;simp only[eG]at hW0 hP;generalize p.bd=bd at*;generalize p.seq=sq at*;generalize p.t=pt at*;generalize p.h=ph at*;generalize p.s=ps at*;generalize p.u=pu at*;generalize p.b=pb at*;generalize p.a=pa at*;generalize p.c=pc at*;generalize dB p.M=bo at*;generalize p.M.length=pl at*;obtain⟨bd1,bd2⟩:=bd;obtain⟨sq1,sq2⟩:=sq;obtain⟨bo1,bo2⟩:=bo;simp only at*;obtain⟨q0,q1,q2,q3,q4,q5⟩:=hP _ (ai.refl _ _);clear hv hM hE h0;change Hid _ at hP cB cS cO hsame hC hrr;replace hW0:=af hW0;cases bd2 with
 |false=>
  rw[if_pos rfl];clear h;go_enter Tryz.func214,Tryz.ntmps214
  go_wp2_with fail
  refine wp_scope_jumps 0 (Jb 9 w) (fun _ _=>0) (by rfl) ?_ ?_
  ·go_wp2_with(first
   |(go_at_call 163;refine(new_any _).mono ?_;rintro e w1 ⟨tb,tm,rfl,hT1,htb,zY,aL⟩;have hX1:=hW0.out.trans aL;obtain⟨q0,q1,q2,q3,q4,q5⟩:=hP.out _ aL;have cB1:=af (cB.out _ hX1);replace aL:=af aL;replace hX1:=af hX1;replace hT1:=af hT1;replace htb:=af htb;replace zY:=af zY)
   |(go_at_call 258;(with_reducible refine cB1.out.mono ?_);rintro e w2 ⟨rfl,hO2⟩;have hY2:=aL.out.trans hO2;have hX2:=hX1.out.trans hO2;obtain⟨r0,r1,r2,r3,r4,r5⟩:=hP.out _ hY2;have cS2:=af (cS.out w2);have mX:=af (hT1.out.own hO2 (by simp) (by simp));replace hO2:=af hO2;replace hX2:=af hX2;replace hY2:=af hY2))
   go_step3
   exact⟨rfl,_,_,_,_,_,_,_,_,_,_,_,_,_,_,_,_,_,_,_,_,_,_,_,_,_,_,_,_,_,_,_,_,_,_,_,_,_,_,_,_,_,_,_,_,_,_,_,_,_,_,_,_,_,_,_,_,_,_,_,_,_,_,_,_,_,_,_,_,_,_,rfl,hX2.out⟩
  ·rintro a9 w9 ⟨u0,u1,u2,u3,u4,u5,u6,u7,u8,Ow,Ox,Oy,Oz,OA,YZ,u16,Y0,Y1,Y2,u20,u21,u22,u23,u24,u25,u26,u27,u28,u29,u30,u31,u32,u33,u34,u35,u36,u37,u38,u39,u40,u41,u42,u43,u44,u45,u46,u47,u48,u49,u50,u51,u52,u53,u54,u55,u56,u57,u58,u59,u60,u61,u62,u63,u64,u65,u66,u67,u68,u69,u70,rfl,hJ⟩
   change Hid _ at hJ;go_wp2_with fail
   simp only[Exit.jump];go_ret
   exact⟨rfl,hsame.out _ hJ.out⟩
 |true=>
  rw[if_neg (by simp)];cases sq2 with
  |false=>
   rw[if_pos rfl];clear h;go_enter Tryz.func214,Tryz.ntmps214
   go_wp2_with fail
   refine wp_scope_jumps 0 (Jb 4 w) (fun _ _=>0) (by rfl) ?_ ?_
   ·go_wp2_with(first
    |(go_at_call 163;refine(new_any _).mono ?_;rintro e w1 ⟨tb,tm,rfl,hT1,htb,zY,aL⟩;have hX1:=hW0.out.trans aL;obtain⟨q0,q1,q2,q3,q4,q5⟩:=hP.out _ aL;have cB1:=af (cB.out _ hX1);replace aL:=af aL;replace hX1:=af hX1;replace hT1:=af hT1;replace htb:=af htb;replace zY:=af zY)
    |(go_at_call 258;(with_reducible refine cB1.out.mono ?_);rintro e w2 ⟨rfl,hO2⟩;have hY2:=aL.out.trans hO2;have hX2:=hX1.out.trans hO2;obtain⟨r0,r1,r2,r3,r4,r5⟩:=hP.out _ hY2;have cS2:=af (cS.out w2);have mX:=af (hT1.out.own hO2 (by simp) (by simp));replace hO2:=af hO2;replace hX2:=af hX2;replace hY2:=af hY2)
    |(go_at_call 259;(with_reducible refine cS2.out.mono ?_);rintro e w3 ⟨rfl,hO3⟩;have J4:=hY2.out.trans hO3;have fC:=hX2.out.trans hO3;obtain⟨t0,t1,t2,t3,t4,t5⟩:=hP.out _ J4;have cO3:=af (cO.out _ fC);have Ym:=af (mX.out.own hO3 (by simp) (by simp));replace hO3:=af hO3;replace fC:=af fC;replace J4:=af J4))
    go_step3
    exact⟨rfl,_,_,_,_,_,_,_,_,_,_,_,_,_,_,_,_,_,_,_,_,_,_,_,_,_,_,_,_,_,_,_,_,_,_,_,_,_,_,_,_,_,_,_,_,_,_,_,_,_,_,_,_,_,_,_,_,_,_,_,_,_,_,_,_,_,_,_,_,_,_,rfl,fC.out⟩
   ·rintro a9 w9 ⟨u0,u1,u2,u3,u4,u5,u6,u7,u8,Ow,Ox,Oy,Oz,OA,YZ,u16,Y0,Y1,Y2,u20,u21,u22,u23,u24,u25,u26,u27,u28,u29,u30,u31,u32,u33,u34,u35,u36,u37,u38,u39,u40,u41,u42,u43,u44,u45,u46,u47,u48,u49,u50,u51,u52,u53,u54,u55,u56,u57,u58,u59,u60,u61,u62,u63,u64,u65,u66,u67,u68,u69,u70,rfl,hJ⟩
    change Hid _ at hJ;go_wp2_with fail
    simp only[Exit.jump];go_ret
    exact⟨rfl,hsame.out _ hJ.out⟩
  |true=>
   rw[if_neg (by simp)];by_cases hb:bo1=1
   ·subst hb
    rw[if_neg (by simp)];have hal:=vE [] iP bo2 (by simp);obtain⟨⟨st1,st2⟩,hst⟩: ∃st,pO [] iP bo2=st:=⟨_,rfl⟩;rw[hst]at hal⊢;simp only at hal⊢;change Hid _ at hst;by_cases hc:jA st1=1
    ·rw[if_neg (by simp[hc])]
     have cR:=fun W (hw:Sq.RowAt W L.rb s.want s.begun)=>Sq.begin_any L.rb s.want s.begun sq1 W hw
     have hsb:Sq.sBegin s.want s.begun sq1=(0,(sq1+1)%256,true):=by unfold Sq.sBegin;rw[if_pos hsq]
     rw[hsb]at cR;unfold Sq.RowPost at cR;have hcb:(jA st1 !=1)=false:=by simp[hc]
     change Hid _ at h cR hal;have UJ:=af hbl;change Hid _ at hc;clear hsb;go_enter Tryz.func214,Tryz.ntmps214
     go_wp2_with fail
     go_step3
     go_wp2_with(first
      |(go_at_call 163;refine(new_any _).mono ?_;rintro e w1 ⟨tb,tm,rfl,hT1,htb,zY,aL⟩;have hX1:=hW0.out.trans aL;obtain⟨q0,q1,q2,q3,q4,q5⟩:=hP.out _ aL;have cB1:=af (cB.out _ hX1);replace aL:=af aL;replace hX1:=af hX1;replace hT1:=af hT1;replace htb:=af htb;replace zY:=af zY)
      |(go_at_call 258;(with_reducible refine cB1.out.mono ?_);rintro e w2 ⟨rfl,hO2⟩;have hY2:=aL.out.trans hO2;have hX2:=hX1.out.trans hO2;obtain⟨r0,r1,r2,r3,r4,r5⟩:=hP.out _ hY2;have cS2:=af (cS.out w2);have mX:=af (hT1.out.own hO2 (by simp) (by simp));replace hO2:=af hO2;replace hX2:=af hX2;replace hY2:=af hY2)
      |(go_at_call 259;(with_reducible refine cS2.out.mono ?_);rintro e w3 ⟨rfl,hO3⟩;have J4:=hY2.out.trans hO3;have fC:=hX2.out.trans hO3;obtain⟨t0,t1,t2,t3,t4,t5⟩:=hP.out _ J4;have cO3:=af (cO.out _ fC);have Ym:=af (mX.out.own hO3 (by simp) (by simp));replace hO3:=af hO3;replace fC:=af fC;replace J4:=af J4)
      |(go_at_call 260;(with_reducible refine cO3.out.mono ?_);(rintro e w4 ⟨a,cap,rfl,qA,hO4⟩;have qC:=fC.out.trans hO4;have Vf:=Ym.out.own hO4 (by simp) (by simp);have J5:=Ci tb tm [] iP a bo2.length cap (dU bo2) w4 Vf (pR (qA.at_ (by omega))) (by simp);rw[nE,hst.out]at J5;unfold iP at J5;simp only at J5;replace J5:=af J5;have hda:=Ym.out.lt;replace hda:=af hda;replace Vf:=af Vf;replace qA:=af qA;replace hO4:=af hO4;replace qC:=af qC))
      |(go_at_call 262;(with_reducible refine J5.out.mono ?_);rintro e w5 ⟨rfl,OQ,aF⟩;have iD:ai [] w w5:=qC.out.trans' aF (fun x hx=>.inr (by simp at hx;subst hx;exact Nat.le_trans hW0.out.size zY.out));obtain⟨⟨k2,k3,k4,k5,k6,k7,k8⟩,f2,f3,f5,f6,f7,f8⟩:=hC.out _ iD;replace OQ:=af OQ;replace aF:=af aF;replace iD:=af iD)
      |(go_at_call 261;(with_reducible refine(sO _ _).mono ?_);rintro e w6 ⟨rfl,rfl⟩)
      |(go_at_call 263;refine(cR.out _ (hrr.out _ (iD.out.nil.trans (by repeat(first|exact ai.refl _ _|refine ai.setCell ?_ (by simp) _))))).mono ?_;rintro e Y8 ⟨rfl,JU,pz⟩;replace JU:=af JU;replace pz:=af pz))
     go_step3
     go_wp2_with fail
     rw[Exit.noGoto_ret];go_ret
     have hz:=fC.out.size;refine⟨show Ending.returned (.int .i64 (jA st1))=_ by rw[hc.out],M7 h.out iD.out OQ.out (Nat.le_trans hW0.out.size htb.out) (Nat.le_trans hW0.out.size zY.out) ?_ UJ.out hal.out ?_ rfl pz.out JU.out⟩
     ·have pF:=qA.out.own' aF.out (fun b hb=>by
       have h1:=hda.out;have h2:w3.heap.size<=b:=by
        cases a with
        |none=>cases hb
        |some q=>cases hb;exact qA.out.fresh q rfl
       simp;omega)
      exact⟨pF.own,fun q hq=>Nat.le_trans hz (pF.fresh q hq),pF.good⟩
     ·intro b hb
      have h1:=hda.out;have h2:w3.heap.size<=b:=by
       cases a with
       |none=>cases hb
       |some q=>cases hb;exact qA.out.fresh q rfl
      omega
    ·rw[if_pos hc]
     have hcb:(jA st1 !=1)=true:=by simpa using hc
     clear hc h;go_enter Tryz.func214,Tryz.ntmps214
     go_wp2_with fail
     refine wp_scope_jumps 0 (Jb (jA st1) w) (fun _ _=>0) (by rfl) ?_ ?_
     ·go_wp2_with(first
      |(go_at_call 163;refine(new_any _).mono ?_;rintro e w1 ⟨tb,tm,rfl,hT1,htb,zY,aL⟩;have hX1:=hW0.out.trans aL;obtain⟨q0,q1,q2,q3,q4,q5⟩:=hP.out _ aL;have cB1:=af (cB.out _ hX1);replace aL:=af aL;replace hX1:=af hX1;replace hT1:=af hT1;replace htb:=af htb;replace zY:=af zY)
      |(go_at_call 258;(with_reducible refine cB1.out.mono ?_);rintro e w2 ⟨rfl,hO2⟩;have hY2:=aL.out.trans hO2;have hX2:=hX1.out.trans hO2;obtain⟨r0,r1,r2,r3,r4,r5⟩:=hP.out _ hY2;have cS2:=af (cS.out w2);have mX:=af (hT1.out.own hO2 (by simp) (by simp));replace hO2:=af hO2;replace hX2:=af hX2;replace hY2:=af hY2)
      |(go_at_call 259;(with_reducible refine cS2.out.mono ?_);rintro e w3 ⟨rfl,hO3⟩;have J4:=hY2.out.trans hO3;have fC:=hX2.out.trans hO3;obtain⟨t0,t1,t2,t3,t4,t5⟩:=hP.out _ J4;have cO3:=af (cO.out _ fC);have Ym:=af (mX.out.own hO3 (by simp) (by simp));replace hO3:=af hO3;replace fC:=af fC;replace J4:=af J4)
      |(go_at_call 260;(with_reducible refine cO3.out.mono ?_);(rintro e w4 ⟨a,cap,rfl,qA,hO4⟩;have qC:=fC.out.trans hO4;have Vf:=Ym.out.own hO4 (by simp) (by simp);have J5:=Ci tb tm [] iP a bo2.length cap (dU bo2) w4 Vf (pR (qA.at_ (by omega))) (by simp);rw[nE,hst.out]at J5;unfold iP at J5;simp only at J5;replace J5:=af J5;have hda:=Ym.out.lt;replace hda:=af hda;replace Vf:=af Vf;replace qA:=af qA;replace hO4:=af hO4;replace qC:=af qC))
      |(go_at_call 262;(with_reducible refine J5.out.mono ?_);rintro e w5 ⟨rfl,OQ,aF⟩;have iD:ai [] w w5:=qC.out.trans' aF (fun x hx=>.inr (by simp at hx;subst hx;exact Nat.le_trans hW0.out.size zY.out));obtain⟨⟨k2,k3,k4,k5,k6,k7,k8⟩,f2,f3,f5,f6,f7,f8⟩:=hC.out _ iD;replace OQ:=af OQ;replace aF:=af aF;replace iD:=af iD)
      |(go_at_call 261;(with_reducible refine(sO _ _).mono ?_);rintro e w6 ⟨rfl,rfl⟩))
      go_step3
      exact⟨rfl,_,_,_,_,_,_,_,_,_,_,_,_,_,_,_,_,_,_,_,_,_,_,_,_,_,_,_,_,_,_,_,_,_,_,_,_,_,_,_,_,_,_,_,_,_,_,_,_,_,_,_,_,_,_,_,_,_,_,_,_,_,_,_,_,_,_,_,_,_,_,rfl,iD.out⟩
     ·rintro a9 w9 ⟨u0,u1,u2,u3,u4,u5,u6,u7,u8,Ow,Ox,Oy,Oz,OA,YZ,u16,Y0,Y1,Y2,u20,u21,u22,u23,u24,u25,u26,u27,u28,u29,u30,u31,u32,u33,u34,u35,u36,u37,u38,u39,u40,u41,u42,u43,u44,u45,u46,u47,u48,u49,u50,u51,u52,u53,u54,u55,u56,u57,u58,u59,u60,u61,u62,u63,u64,u65,u66,u67,u68,u69,u70,rfl,hJ⟩
      change Hid _ at hJ;go_wp2_with fail
      simp only[Exit.jump];go_ret
      exact⟨rfl,hsame.out _ hJ.out⟩
   ·rw[if_pos hb]
    have hbb:(bo1 !=1)=true:=by simpa using hb
    clear hb h;go_enter Tryz.func214,Tryz.ntmps214
    go_wp2_with fail
    refine wp_scope_jumps 0 (Jb bo1 w) (fun _ _=>0) (by rfl) ?_ ?_
    ·go_wp2_with(first
     |(go_at_call 163;refine(new_any _).mono ?_;rintro e w1 ⟨tb,tm,rfl,hT1,htb,zY,aL⟩;have hX1:=hW0.out.trans aL;obtain⟨q0,q1,q2,q3,q4,q5⟩:=hP.out _ aL;have cB1:=af (cB.out _ hX1);replace aL:=af aL;replace hX1:=af hX1;replace hT1:=af hT1;replace htb:=af htb;replace zY:=af zY)
     |(go_at_call 258;(with_reducible refine cB1.out.mono ?_);rintro e w2 ⟨rfl,hO2⟩;have hY2:=aL.out.trans hO2;have hX2:=hX1.out.trans hO2;obtain⟨r0,r1,r2,r3,r4,r5⟩:=hP.out _ hY2;have cS2:=af (cS.out w2);have mX:=af (hT1.out.own hO2 (by simp) (by simp));replace hO2:=af hO2;replace hX2:=af hX2;replace hY2:=af hY2)
     |(go_at_call 259;(with_reducible refine cS2.out.mono ?_);rintro e w3 ⟨rfl,hO3⟩;have J4:=hY2.out.trans hO3;have fC:=hX2.out.trans hO3;obtain⟨t0,t1,t2,t3,t4,t5⟩:=hP.out _ J4;have cO3:=af (cO.out _ fC);have Ym:=af (mX.out.own hO3 (by simp) (by simp));replace hO3:=af hO3;replace fC:=af fC;replace J4:=af J4)
     |(go_at_call 260;(with_reducible refine cO3.out.mono ?_);(rintro e w4 ⟨a,cap,rfl,qA,hO4⟩;have qC:=fC.out.trans hO4;have Vf:=Ym.out.own hO4 (by simp) (by simp);have hda:=Ym.out.lt;replace hda:=af hda;replace Vf:=af Vf;replace qA:=af qA;replace hO4:=af hO4;replace qC:=af qC)))
     go_step3
     exact⟨rfl,_,_,_,_,_,_,_,_,_,_,_,_,_,_,_,_,_,_,_,_,_,_,_,_,_,_,_,_,_,_,_,_,_,_,_,_,_,_,_,_,_,_,_,_,_,_,_,_,_,_,_,_,_,_,_,_,_,_,_,_,_,_,_,_,_,_,_,_,_,_,rfl,qC.out⟩
    ·rintro a9 w9 ⟨u0,u1,u2,u3,u4,u5,u6,u7,u8,Ow,Ox,Oy,Oz,OA,YZ,u16,Y0,Y1,Y2,u20,u21,u22,u23,u24,u25,u26,u27,u28,u29,u30,u31,u32,u33,u34,u35,u36,u37,u38,u39,u40,u41,u42,u43,u44,u45,u46,u47,u48,u49,u50,u51,u52,u53,u54,u55,u56,u57,u58,u59,u60,u61,u62,u63,u64,u65,u66,u67,u68,u69,u70,rfl,hJ⟩
     change Hid _ at hJ;go_wp2_with fail
     simp only[Exit.jump];go_ret
     exact⟨rfl,hsame.out _ hJ.out⟩
end Go.Proofs.YtedcakchekaemaaGreatDoor
namespace Go.Proofs.YtedcakchekaemaaGreatDoor
open Go.RowKit
variable [Kd]
theorem KG(base:Int)(raw:Bool)(f:bN):O5 base raw [f]=jg base raw PV.zero f:=by
 unfold O5;simp only[List.foldlM_cons,List.foldlM_nil];cases jg base raw PV.zero f<;>rfl
theorem Bg{w:World}{b:Nat}{f:bN}(h:w.heap[b]?=some (.cells (fL f).toArray 100 (0,0)))(c:Nat):aG fL w (.slice (some ⟨b,0,none⟩) 1 c) [f]:=
 .inr ⟨b,0,c,rfl,fun j u hu=>by
  rw[Nat.zero_add,cell_of_row w b j _ _ _ h];simpa[aI]using hu⟩
theorem bM.start{t:Option MT}{w w1 w':World}{b:Nat}{e:Ending}(hA:ai [] w w1)(h:bM t w1 b e w'):bM t w b e w':=by
 cases t with
 |none=>
  obtain⟨h1,h2⟩:=h;exact⟨h1,hA.nil.trans h2⟩
 |some y=>
  obtain⟨h1,h2,h3⟩:=h;exact⟨h1,h2,hA.nil.trans h3⟩
theorem bO.set3{w:World}{b:Nat}{x:MT}(h:bO w b x)(y:PV):bO (((w.setCell ⟨b,10,none⟩ (.int .i64 y.k)).setCell ⟨b,11,none⟩ (.int .u64 y.n)).setCell ⟨b,12,none⟩ (.string y.s)) b {x with m:={x.m with v:=y}}/\
  ai [b] w (((w.setCell ⟨b,10,none⟩ (.int .i64 y.k)).setCell ⟨b,11,none⟩ (.int .u64 y.n)).setCell ⟨b,12,none⟩ (.string y.s)):=by
 have h1:=heap_setCell_same w b 10 _ _ (.int .i64 y.k) h;have h2:=heap_setCell_same _ b 11 _ _ (.int .u64 y.n) h1;have h3:=heap_setCell_same _ b 12 _ _ (.string y.s) h2;exact⟨by unfold bO;rw[h3];rfl,(((ai.refl [b] w).setCell (.inl (by simp)) _).setCell (.inl (by simp)) _).setCell (.inl (by simp)) _⟩
theorem Io(b:Nat)(x:MT)(f:bN)(w:World)(h:bO w b x)(hf:f.Ok)(hK:aS w):
  Calls Tryz.prog 389 #[.pointer (some ⟨b,0,none⟩),.agg (fL f).toArray] w (bM ((jg 10 true PV.zero f).map fun v=>if v.k=0 then x else{x with m:={x.m with v:=v}}) w b):=by
 have hA1:=(ai.refl [] w).alloc (.cells (fL f).toArray 100);have hA:=hA1.alloc (.cells (fL f).toArray 100);have cV:=yg _ [f] 10 true _ (Bg (b:=w.heap.size+1) (heap_alloc2_new w (.cells (fL f).toArray 100) (.cells (fL f).toArray 100)) 1) (by simp) (by simpa using hf) (by omega) (hK.own hA);rw[KG]at cV;obtain⟨⟨d0,d1,d2,d3⟩,_⟩:=q4 (heap_alloc_new w (.cells (fL f).toArray 100));obtain⟨R,hR⟩: ∃R,((jg 10 true PV.zero f).map fun v=>if v.k=0 then x else{x with m:={x.m with v:=v}})=R:=⟨_,rfl⟩;rw[hR];have hM:=h.own hA (by simp);replace hM:=af hM;have hbl:=aj h;unfold vK at cV;unfold fL at*;obtain⟨f1,f2,f3,f4⟩:=f;simp only at*;cases hv:jg 10 true PV.zero ⟨f1,f2,f3,f4⟩with
 |none=>
  rw[hv]at cV hR;simp only[Option.map_none]at hR;replace hR:=af hR.symm;replace cV:=af cV;replace hA:=af hA;clear hv hA1 hf hK h;go_enter Tryz.func389,Tryz.ntmps389
  go_wp2_with fail
  refine cV.out.mono ?_;rintro e w2 ⟨⟨y,ec,aD,rfl⟩,hO⟩;unfold PV.val;have hO2:=hA.out.trans hO;have q:(ec==0)=false:=by simpa using aD
  change Hid _ at aD;have hO3:=af ((hO2.alloc (.cells #[.int .i64 y.k,.int .u64 y.n,.string y.s] 105)).nil (S:=[b]));clear hO hO2;go_wp2_with fail
  go_ret
  exact eY hR.out aD.out hO3.out
 |some y=>
  rw[hv]at cV hR;simp only[Option.map_some]at hR;replace cV:=af cV;replace hA:=af hA;replace hR:=af hR.symm;clear hv hA1 hf hK h;go_enter Tryz.func389,Tryz.ntmps389
  go_wp2_with fail
  refine cV.out.mono ?_;rintro e w2 ⟨rfl,hO⟩;unfold PV.val;obtain⟨y1,y2,y3⟩:=y;simp only;have hO2:=hA.out.trans hO;have hO3:=hO2.alloc (.cells #[.int .i64 y1,.int .u64 y2,.string y3] 105);have eO:=(hM.out.own hO (by simp)).own ((ai.refl [] w2).alloc (.cells #[.int .i64 y1,.int .u64 y2,.string y3] 105)) (by simp);obtain⟨⟨v0,v1,v2⟩,_⟩:=q3 (heap_alloc_new w2 (.cells #[.int .i64 y1,.int .u64 y2,.string y3] 105));by_cases hy:y1=0
  ·subst hy
   have hR2:=hR.out;simp only[if_true]at hR2;change Hid _ at hR2 eO;replace hO3:=af (hO3.nil (S:=[b]));clear hR hO hO2 hM hA cV;go_wp2_with fail
   go_ret
   exact fP hR2.out eO.out hO3.out
  ·have qy:(y1==0)=false:=by simpa using hy
   have hR2:=hR.out;simp only[if_neg hy]at hR2;change Hid _ at hR2;obtain⟨c10,z10⟩:=eO.cell 10 (u:=.int .i64 x.m.v.k) rfl;obtain⟨c11,X4⟩:=eO.cell 11 (u:=.int .u64 x.m.v.n) rfl;obtain⟨c12,z12⟩:=eO.cell 12 (u:=.string x.m.v.s) rfl;have hM2:=hM.out.own hO (by simp);obtain⟨e10,k10⟩:=hM2.cell 10 (u:=.int .i64 x.m.v.k) rfl;obtain⟨e11,k11⟩:=hM2.cell 11 (u:=.int .u64 x.m.v.n) rfl;obtain⟨e12,k12⟩:=hM2.cell 12 (u:=.string x.m.v.s) rfl;have hb2:b<w2.heap.size:=aj hM2;change Hid _ at eO;replace hM2:=af hM2;replace hO2:=af hO2;clear hR hO hM hA cV hO3 hy;go_wp2_with fail
   go_ret
   obtain⟨hq,Gi⟩:=hM2.out.set3 ⟨y1,y2,y3⟩;exact fP hR2.out (hq.own ((ai.refl [] _).alloc _) (by simp)) ((hO2.out.nil.trans Gi).alloc _)
theorem EJ(b:Nat)(x:MT)(f:bN)(w:World)(h:bO w b x)(hf:f.Ok)(hK:aS w)(hn: ¬(f.num=1\/f.num=2\/f.num=3\/f.num=4\/f.num=5\/f.num=6\/f.num=7\/f.num=8\/f.num=9\/f.num=17\/f.num=18)):
  Calls Tryz.prog 381 #[.pointer (some ⟨b,0,none⟩),.agg (fL f).toArray] w (bM (bD x f) w b):=by
 have hms:bD x f=(jg 10 true PV.zero f).map fun v=>if v.k=0 then x else{x with m:={x.m with v:=v}}:=by
  unfold bD;simp only[not_or]at hn;obtain⟨n1,n2,n3,n4,n5,n6,n7,n8,n9,n17,n18⟩:=hn;rw[if_neg n1,if_neg n2,if_neg n3,if_neg n4,if_neg n5,if_neg n6,if_neg n7,if_neg n8,if_neg n9,if_neg n17,if_neg n18]
 have hA:=(ai.refl [] w).alloc (.cells (fL f).toArray 100);have cP:=Io b x f _ (h.own hA (by simp)) hf (hK.own hA);rw[<-hms]at cP;obtain⟨⟨d0,d1,d2,d3⟩,_⟩:=q4 (heap_alloc_new w (.cells (fL f).toArray 100));have Gb:=cP.mono (fun _ _ hp=>bM.start hA hp);generalize bD x f=R at Gb⊢;obtain⟨f1,f2,f3,f4⟩:=f;simp only[not_or]at hn;obtain⟨n1,n2,n3,n4,n5,n6,n7,n8,n9,n17,n18⟩:=hn;have q1:(f1==1)=false:=by simpa using n1
 have q2:(f1==2)=false:=by simpa using n2
 have q3:(f1==3)=false:=by simpa using n3
 have q4:(f1==4)=false:=by simpa using n4
 have q5:(f1==5)=false:=by simpa using n5
 have q6:(f1==6)=false:=by simpa using n6
 have q7:(f1==7)=false:=by simpa using n7
 have q8:(f1==8)=false:=by simpa using n8
 have q9:(f1==9)=false:=by simpa using n9
 have q17:(f1==17)=false:=by simpa using n17
 have q18:(f1==18)=false:=by simpa using n18
 unfold fL at*;simp only at*;replace Gb:=af Gb;clear cP hms hf hK h hA n1 n2 n3 n4 n5 n6 n7 n8 n9 n17 n18;go_enter Tryz.func381,Tryz.ntmps381
 go_wp2_with fail
 refine Gb.out.mono ?_;rintro e w2 hp;have hp2:=hp;cases R with
 |none=>
  obtain⟨⟨ec,aD,rfl⟩,hO⟩:=hp;change Hid _ at aD hO;replace hp2:=af hp2;go_wp2_with fail
  go_ret
  exact hp2.out
 |some y=>
  obtain⟨rfl,hM,hO⟩:=hp;change Hid _ at hM hO;replace hp2:=af hp2;go_wp2_with fail
  go_ret
  exact hp2.out
theorem Mx(b:Nat)(x:MT)(f:bN)(w:World)(h:bO w b x)(hf:f.Ok)(hK:aS w):
  Calls Tryz.prog 381 #[.pointer (some ⟨b,0,none⟩),.agg (fL f).toArray] w (bM (bD x f) w b):=by
 by_cases hn:f.num=1\/f.num=2\/f.num=3\/f.num=4\/f.num=5\/f.num=6\/f.num=7\/f.num=8\/f.num=9\/f.num=17\/f.num=18
 ·obtain⟨n,k,v,t⟩:=f
  have h0:=hf.v0;have h1:=hf.v1;simp only at hn h0 h1;rcases hn with rfl|rfl|rfl|rfl|rfl|rfl|rfl|rfl|rfl|rfl|rfl
  ·exact VI b x k v t w h h0 h1
  ·exact VJ b x k v t w h h0 h1
  ·exact VK b x k v t w h h0 h1
  ·exact VN b x k v t w h h0 h1
  ·exact VO b x k v t w h h0 h1
  ·exact VP b x k v t w h h0 h1
  ·exact VQ b x k v t w h h0 h1
  ·exact VR b x k v t w h h0 h1
  ·exact VS b x k v t w h h0 h1
  ·exact QN b x k v t w h h0 h1
  ·exact QO b x k v t w h h0 h1
 ·exact EJ b x f w h hf hK hn
end Go.Proofs.YtedcakchekaemaaGreatDoor
namespace Go.Proofs.YtedcakchekaemaaGreatDoor
open Go.RowKit
theorem au.pend{w:World}{n:Nat}{g nm:ByteArray}{L:EW}{s:EN}(h:au w n g nm L s):
  au (w.setCell ⟨n,5,none⟩ (.bool true)) n g nm L {s with pending:=true}/\ai [n] w (w.setCell ⟨n,5,none⟩ (.bool true)):=by
 have hO2:ai [n] w (w.setCell ⟨n,5,none⟩ (.bool true)):=(ai.refl _ _).setCell (by simp) _;have hA:=h.apart;unfold EW.feet at hA;simp only[List.nodup_cons,List.mem_cons,List.mem_append,not_or]at hA;obtain⟨⟨a1,a2,a3,a4,a5,a6⟩,_⟩:=hA;refine⟨⟨heap_setCell_same _ _ _ _ _ _ h.row,h.rrow.own hO2 (by simpa using Ne.symm a1),h.tab.own hO2 (by simpa using Ne.symm a2) (by simpa using Ne.symm a3),h.its.own' hO2 (fun b hb=>?_),h.dvs.own hO2 (fun b hb=>?_),h.len,fun i d x hd hx=>?_,h.apart,h.few⟩,hO2⟩
 ·have:=bG hb
  simp;rintro rfl;exact a4 this
 ·simp;rintro rfl
  exact a5 (by simp[hb])
 ·obtain⟨k1,k2,k3⟩:=h.devs i d x hd hx
  have hm:d∈L.ds:=List.mem_of_getElem? hd;have hn2: ∀b,b∈d.blk::bP d.a->b≠n:=fun b hb e=>by
   subst e;exact a6 (List.mem_flatMap.2 ⟨d,hm,hb⟩)
  exact⟨hO2.heap k1 (by simpa using hn2 _ (List.mem_cons_self ..)),k2.own' hO2 (fun b hb=>by simpa using hn2 b (List.mem_cons_of_mem _ (bG hb))),k3⟩
theorem jW{n:Nat}{g nm:ByteArray}{L L':EW}{s:EN}{w w0 w2:World}(h0:ai [] w w0)(hE:au w2 n g nm L' s)(hO:ai (L.feet n) w0 w2)(hs: ∀x∈L'.feet n,x∈L.feet n\/w0.heap.size<=x):
  ∃L',au (w2.setCell ⟨n,5,none⟩ (.bool true)) n g nm L' {s with pending:=true}/\ai (L.feet n) w (w2.setCell ⟨n,5,none⟩ (.bool true))/\(∀x∈L'.feet n,x∈L.feet n\/w.heap.size<=x):=by
 obtain⟨h1,h2⟩:=hE.pend;refine⟨L',h1,(h0.nil.trans hO).trans (h2.mono (fun x hx=>by simp at hx;subst hx;unfold EW.feet;simp)),fun x hx=>?_⟩;rcases hs x hx with h3|h3
 ·exact .inl h3
 ·exact .inr (Nat.le_trans h0.size h3)
theorem jX{n:Nat}{g nm:ByteArray}{L L':EW}{s:EN}{w w0 w2:World}(h0:ai [] w w0)(hE:au w2 n g nm L' s)(hO:ai (L.feet n) w0 w2)(hs: ∀x∈L'.feet n,x∈L.feet n\/w0.heap.size<=x):
  ∃L',au w2 n g nm L' s/\ai (L.feet n) w w2/\(∀x∈L'.feet n,x∈L.feet n\/w.heap.size<=x):=by
 refine⟨L',hE,h0.nil.trans hO,fun x hx=>?_⟩;rcases hs x hx with h3|h3
 ·exact .inl h3
 ·exact .inr (Nat.le_trans h0.size h3)
theorem M9(n:Nat)(g nm:ByteArray)(L:EW)(s:EN)(dn:ByteArray)(p:iI)(w:World)(h:au w n g nm L s)(hM:eF w p.a p.M)(h0:0<=p.s)(hE:jP w):
  Calls Tryz.prog 96 #[.pointer (some ⟨n,0,none⟩),.int .i64 1,.string dn,p.val] w (dQ n g nm L (fe (pU s p)) w):=by
 have hW0:=dS w p;obtain⟨q0,q1,q2,q3,q4,q5⟩:=bH w p (S:=[]) (by simp) _ (ai.refl _ _);have cB:=M8 n g nm L s dn p (eG w p) (h.nil' hW0) (hM.nil' hW0) h0 (hE.nil hW0);have hC:=fun W L' s' (hk:au W n g nm L' s')=>aR hk (S:=[]) (by simp) W (ai.refl _ _)
 obtain⟨⟨k2,k3,k4,k5,k6,k7,k8⟩,_⟩:=aR h (S:=[]) (by simp) _ hW0;have hp:=fun L' s' w2 (hE:au w2 n g nm L' s') hO hs=>jW (w:=w) (L:=L) hW0 hE hO hs
 have hq:=fun L' s' w2 (hE:au w2 n g nm L' s') hO hs=>jX (w:=w) (L:=L) hW0 hE hO hs
 have cN:=iK n ⟨L.rb,0,none⟩ (eG w p) k4;unfold dQ at cB⊢;have hv:p.val=.agg #[.int .u64 p.t,.bool p.h,.int .u64 p.s,.string p.u,.string p.b,.slice p.a p.M.length p.c]:=rfl;rw[hv]at cB⊢;simp only[eG]at cB cN hW0 q0 q1 q2 q3 q4 q5 k4;unfold fe;generalize pU s p=r at*;obtain⟨r1,r2⟩:=r;simp only at cB⊢;change Hid _ at hW0 hC hp hq;replace cB:=af cB;replace cN:=af cN;clear hv h hM h0 hE k2 k3 k5 k6 k7 k8;by_cases h3:3<=r1
 ·rw[if_pos h3]
  go_enter Tryz.func96,Tryz.ntmps96
  go_wp2_with(first
   |(go_at_call 59;(with_reducible refine cN.out.mono ?_);rintro e w1 ⟨rfl,rfl⟩)
   |(go_at_call 168;go_in)
   |(go_at_call 214;(with_reducible refine cB.out.mono ?_);rintro e w2 ⟨rfl,L',hE',jM,hs'⟩;obtain⟨⟨_,_,_,y5,_,_,_⟩,_,_,f5,_,_,_⟩:=hC.out _ _ _ hE';replace hE':=af hE';replace jM:=af jM;replace hs':=af hs'))
  go_ret
  exact⟨rfl,hp.out _ _ _ hE'.out jM.out hs'.out⟩
 ·rw[if_neg h3]
  go_enter Tryz.func96,Tryz.ntmps96
  go_wp2_with(first
   |(go_at_call 59;(with_reducible refine cN.out.mono ?_);rintro e w1 ⟨rfl,rfl⟩)
   |(go_at_call 168;go_in)
   |(go_at_call 214;(with_reducible refine cB.out.mono ?_);rintro e w2 ⟨rfl,L',hE',jM,hs'⟩;replace hE':=af hE';replace jM:=af jM;replace hs':=af hs'))
  go_ret
  exact⟨rfl,hq.out _ _ _ hE'.out jM.out hs'.out⟩
theorem Na(n:Nat)(g nm:ByteArray)(L:EW)(s:EN)(dn:ByteArray)(p:iI)(w:World)(h:au w n g nm L s)(hM:eF w p.a p.M)(h0:0<=p.s)(hE:jP w):
  Calls Tryz.prog 96 #[.pointer (some ⟨n,0,none⟩),.int .i64 3,.string dn,p.val] w (dQ n g nm L (fe (vD s p)) w):=by
 have hW0:=dS w p;obtain⟨q0,q1,q2,q3,q4,q5⟩:=bH w p (S:=[]) (by simp) _ (ai.refl _ _);have cB:=Rb n g nm L s dn p (eG w p) (h.nil' hW0) (hM.nil' hW0) h0 (hE.nil hW0);have hC:=fun W L' s' (hk:au W n g nm L' s')=>aR hk (S:=[]) (by simp) W (ai.refl _ _)
 obtain⟨⟨k2,k3,k4,k5,k6,k7,k8⟩,_⟩:=aR h (S:=[]) (by simp) _ hW0;have hp:=fun L' s' w2 (hE:au w2 n g nm L' s') hO hs=>jW (w:=w) (L:=L) hW0 hE hO hs
 have hq:=fun L' s' w2 (hE:au w2 n g nm L' s') hO hs=>jX (w:=w) (L:=L) hW0 hE hO hs
 have cN:=iK n ⟨L.rb,0,none⟩ (eG w p) k4;unfold dQ at cB⊢;have hv:p.val=.agg #[.int .u64 p.t,.bool p.h,.int .u64 p.s,.string p.u,.string p.b,.slice p.a p.M.length p.c]:=rfl;rw[hv]at cB⊢;simp only[eG]at cB cN hW0 q0 q1 q2 q3 q4 q5 k4;unfold fe;generalize vD s p=r at*;obtain⟨r1,r2⟩:=r;simp only at cB⊢;change Hid _ at hW0 hC hp hq;replace cB:=af cB;replace cN:=af cN;clear hv h hM h0 hE k2 k3 k5 k6 k7 k8;by_cases h3:3<=r1
 ·rw[if_pos h3]
  go_enter Tryz.func96,Tryz.ntmps96
  go_wp2_with(first
   |(go_at_call 59;(with_reducible refine cN.out.mono ?_);rintro e w1 ⟨rfl,rfl⟩)
   |(go_at_call 168;go_in)
   |(go_at_call 216;(with_reducible refine cB.out.mono ?_);rintro e w2 ⟨rfl,L',hE',jM,hs'⟩;obtain⟨⟨_,_,_,y5,_,_,_⟩,_,_,f5,_,_,_⟩:=hC.out _ _ _ hE';replace hE':=af hE';replace jM:=af jM;replace hs':=af hs'))
  go_ret
  exact⟨rfl,hp.out _ _ _ hE'.out jM.out hs'.out⟩
 ·rw[if_neg h3]
  go_enter Tryz.func96,Tryz.ntmps96
  go_wp2_with(first
   |(go_at_call 59;(with_reducible refine cN.out.mono ?_);rintro e w1 ⟨rfl,rfl⟩)
   |(go_at_call 168;go_in)
   |(go_at_call 216;(with_reducible refine cB.out.mono ?_);rintro e w2 ⟨rfl,L',hE',jM,hs'⟩;replace hE':=af hE';replace jM:=af jM;replace hs':=af hs'))
  go_ret
  exact⟨rfl,hq.out _ _ _ hE'.out jM.out hs'.out⟩
end Go.Proofs.YtedcakchekaemaaGreatDoor
