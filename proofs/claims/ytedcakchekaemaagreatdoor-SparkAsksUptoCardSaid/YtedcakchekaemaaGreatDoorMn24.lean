import Derived.Test.YtedcakchekaemaaGreatDoorMn22
import Derived.Laws.EntriesVeiled
set_option maxRecDepth 100000
set_option maxHeartbeats 16000000
set_option linter.all false
namespace Go.Proofs.YtedcakchekaemaaGreatDoor
open Go.RowKit
variable [Kd]
theorem VO:(Tryz.prog.info? 363).map (fun i=>(i.zero,i.size,i.bytes))=some (some (.agg #[.string ⟨#[]⟩,.int .u32 0,.bool false,.int .i64 0,.int .u64 0,.string ⟨#[]⟩,.slice none 0 0]),7,80):=by kernel_rfl
theorem OJ:je Tryz.prog 103 363 Ky 7 80 where
 ut:=Tryz.underlying103
 info:=by obtain⟨i,h1,h2,h3,h4⟩:=info_parts VO;exact⟨i,_,h1,h2,h3,h4,rfl⟩
 pos:=by omega
 len:=fun _=>rfl
 one x u hu:=by simp only[Ky,List.mem_cons,List.not_mem_nil,or_false]at hu;rcases hu with rfl|rfl|rfl|rfl|rfl|rfl|rfl<;>rfl
theorem jc{ok:Bool}{w w':World}{ec:Int}(h:ok=false)(ay:ec≠0)(ho:ai [] w w'):j4 ok w (.returned (.tuple #[.slice none 0 0,.int .i64 ec])) w':=by subst h;exact⟨⟨ec,ay,rfl⟩,ho⟩
theorem F9{ok:Bool}{w w':World}{a:Option Addr}{n c:Nat}(h:ok=true)(ho:ai [] w w'):j4 ok w (.returned (.tuple #[.slice a n c,.int .i64 0])) w':=by subst h;exact⟨⟨a,n,c,rfl⟩,ho⟩
def OL(g:List Int->Bool)(deep:Int):Prop:= ∀(v:Value) (B:List Int) (W:World),aA bL W v B->(∀b,v.ownBlock=some b->b<W.heap.size)->eB v->ol B->B.length<=140737488351232->aN W->
 Calls Tryz.prog 391 #[v,.int .i64 deep] W (j4 (g B) W)
theorem OL.str{g:List Int->Bool}{deep:Int}(h:OL g deep):VN g deep:=by
 intro t W ht hK;obtain⟨w1,c,h1,h2,h3,h4,h5⟩:=nG t W;refine⟨w1,c,h1,h4,(h _ _ w1 h2 (fun b hb=>?_) h3 (bN t) (by rw[dM];omega) (hK.own h4)).mono fun _ _ hp=>hp.start h4⟩;simp[Value.ownBlock]at hb;omega
theorem OM(deep:Int)(hd:8<deep)(g:List Int->Bool)(hg: ∀B,g B=false):OL g deep:=by
 intro v B W hR hb hc hB hl hK;rw[hg];obtain⟨a,c,rfl⟩:=hR.form;clear hR hb hc hB hl hK;go_enter Tryz.func391,Tryz.ntmps391
 go_wp2_with fail
 go_ret2
 exact jc rfl (by decide) (ai.refl _ _)
theorem OO(n:Nat)(deep:Int)(hd:0<=deep/\deep<=8)(IH:VN (o8 n) (deep+1)):OL (o8 (n+1)) deep:=by
 intro v B W hR hb hc hB hl hK;obtain⟨hd0,hd8⟩:=hd;have cR:=fun key s w hs hK=>Kz (o8 n) deep key s w hs hK ⟨hd0,by omega⟩ IH
 obtain⟨ok,hok⟩: ∃ok,o8 (n+1) B=ok:=⟨_,rfl⟩;rw[hok];unfold o8 at hok;generalize xC (o8 n)=rd at*;have cW:=af (tH W v B hR hb hc hB hl);have hB':=hB;obtain⟨a,c,rfl⟩:=hR.form;have cH:=af (fun v l w h hl=>F5 v l w h hl);have Js:=af hK;have cRh:=af cR;clear hR hb hc hB hK cR IH;go_enter Tryz.func391,Tryz.ntmps391
 go_wp2_with fail
 refine cW.out.mono ?_;intro e w2 hp;cases hw:sj B with
 |none=>
  rw[hw]at hp hok;simp only at hok;obtain⟨⟨ec,ay,rfl⟩,hO2⟩:=hp;have aF:=af hok.symm;have q:(ec !=0)=true:=by simpa using ay
  change Hid _ at ay;replace hO2:=af hO2;clear hw hok;go_wp2_with fail
  go_ret2
  exact jc aF.out ay.out hO2.out
 |some l=>
  rw[hw]at hp hok;simp only at hok;obtain⟨⟨aT,rfl,hS⟩,hO2⟩:=hp;obtain⟨hll,hf⟩:=mG hB' hw;have cH2:=cH.out aT l w2 (hS.reads dX) hll;obtain⟨oa,oc,rfl⟩:=hS.sl;have hfV:=af (fun f hf'=>((tJ hf 2) f hf').t);have hVl:=pY l 2;have hKl:=pY l 1;replace hO2:=af hO2;replace cH2:=af cH2;clear hw hS hf cW;go_wp2_with fail
  refine cH2.out.mono ?_;intro e w3 hp;cases hh:tC l with
  |false=>
   rw[hh]at hp hok;simp only[Bool.false_and]at hok;obtain⟨⟨ec,ay,rfl⟩,hO3⟩:=hp;have aF:=af hok.symm;have q:(ec !=0)=true:=by simpa using ay
   change Hid _ at ay;replace hO3:=af (hO2.out.trans hO3);clear hh hok;go_wp2_with fail
   go_ret2
   exact jc aF.out ay.out hO3.out
  |true=>
   rw[hh]at hp hok;simp only[Bool.true_and]at hok;obtain⟨⟨kv,vv,rfl,hS1,hS2⟩,hO3⟩:=hp;have hlen:(aX l 1).length=(aX l 2).length:=by
    rw[vI]at hh;simp only[Bool.and_eq_true,decide_eq_true_eq]at hh;exact hh.2
   obtain⟨ka,kc,rfl⟩:=hS1.sl;obtain⟨va,vc,rfl⟩:=hS2.sl;have gu:=af (hS1.reads dX);have hR2:=af (hS2.reads dX);replace hO3:=af (hO2.out.trans hO3);change Hid _ at hok;have abF:=hfV;generalize aX l 1=K at*;generalize aX l 2=V at*;clear hh hS1 hS2 hfV cH2 cH hO2;go_wp2_with fail
   go_loopg[10,35] K.length (fun g s10 s35 wr=> ∃(k:Nat) (L:List OH),k<=K.length/\g=K.length-k/\s35=.int .i64 k/\Aside (ai [] w3 wr/\Sl 363 Ky 7 w3.heap.size wr s10 L/\L.length=k/\(V.take k).all (fun f=>rd (ak f.text))=true))
   case atStart=>exact⟨0,[],by omega,by omega,rfl,ai.refl _ _,Sl.nil _ _ _,rfl,by simp⟩
   case round=>
    obtain⟨k,L,hk,rfl,rfl,hO,hS,Rc,hgood⟩:=hrel;have k0:(0:Int)<=k:=by omega
    obtain⟨sa,sc,rfl⟩:=hS.sl;by_cases hlt:k<K.length
    ·have k1:(k:Int)<K.length:=by omega
     have hwk:IntKind.i64.wrap ((k:Int)+1)=(k:Int)+1:=IntWalk.i64_in _ (by omega);have Us:k<V.length:=by omega
     have k1V:(k:Int)<V.length:=by omega
     obtain⟨b1,o1,rfl,_,_,_,x3⟩:=(gu.out.nil' hO).fld hlt;obtain⟨b2,o2,rfl,_,_,_,y3⟩:=(hR2.out.nil' hO).fld Us;have hsz:=abF.out V[k] (List.getElem_mem Us);have hnext:rd (ak V[k].text)=true->(V.take (k+1)).all (fun f=>rd (ak f.text))=true:=fun hh=>by
      rw[List.take_succ_eq_append_getElem Us,List.all_append,hgood];simp[hh]
     have hbad:rd (ak V[k].text)=false->V.all (fun f=>rd (ak f.text))=false:=fun hh=>by
      rw[List.all_eq_false];exact⟨V[k],List.getElem_mem Us,by simp[hh]⟩
     generalize K[k].text=key at*;generalize V[k].text=t at*;have wG:=fun W' (ho:ai [] wr W')=>cRh.out key t W' hsz (Js.out.own ((hO3.out.trans hO).trans ho))
     have hS0:Hid (∀W',ai [] wr W'->W'.cell? ⟨b1,o1+k*4+3,none⟩=some (.string key)/\W'.cell? ⟨b2,o2+k*4+3,none⟩=some (.string t)):=af fun W' ho=>
      ⟨(ho.cell (block_lt_of_cell x3) (by simp)).trans x3,(ho.cell (block_lt_of_cell y3) (by simp)).trans y3⟩
     have kW:=hS0.out wr.drew (ai.refl [] wr).drew;have hn1:wr.heap.size≠b1:=Nat.ne_of_gt (block_lt_of_cell x3);have hn2:wr.heap.size≠b2:=Nat.ne_of_gt (block_lt_of_cell y3);have Ut:=af (((ai.refl [] wr).alloc (.cells #[.string ⟨#[]⟩,.int .u32 0,.bool false,.int .i64 0,.int .u64 0,.string ⟨#[]⟩,.slice none 0 0] 363)).drew);have hbn:((wr.alloc (.cells #[.string ⟨#[]⟩,.int .u32 0,.bool false,.int .i64 0,.int .u64 0,.string ⟨#[]⟩,.slice none 0 0] 363)).drew).heap[wr.heap.size]?=_:=heap_alloc_new wr (.cells #[.string ⟨#[]⟩,.int .u32 0,.bool false,.int .i64 0,.int .u64 0,.string ⟨#[]⟩,.slice none 0 0] 363);have kB:=hS0.out _ Ut.out;have kB2:=hS0.out _ ((ai.refl [] wr).drew.alloc (.cells #[.string ⟨#[]⟩,.int .u32 0,.bool false,.int .i64 0,.int .u64 0,.string ⟨#[]⟩,.slice none 0 0] 363));change Hid _ at wG;cases hr:rd (ak t)with
     |false=>
      change Hid _ at Rc hlen;replace wG:=wG.out;rw[hr]at wG;have aF:ok=false:=by rw[<-hok.out];exact hbad hr
      change Hid _ at aF wG;replace hO:=af hO;clear hnext hbad hgood hr hS;go_wp2_with fail
      go_region_held3(fun W'=>W'.cell? ⟨b1,o1+k*4+3,none⟩=some (.string key)/\W'.cell? ⟨b2,o2+k*4+3,none⟩=some (.string t)) (first|with_reducible exact kA|with_reducible exact kW|with_reducible exact kB|go_keep)
       (first
        |(go_at_call 400;(with_reducible refine(wG.out wr.drew (ai.refl [] wr).drew).mono ?_);rintro e w5 ⟨⟨⟨p1,p2,p3,p4,p5,p6,p7,p8,p9⟩,ec,ay,rfl⟩,aB⟩;unfold Ky;simp only;have iw:=(ai.refl [] wr).drew.trans aB;have kA:=hS0.out _ iw;have hor:Hid (True):=af trivial)
        |(go_at_call 400;(with_reducible refine(wG.out _ Ut.out).mono ?_);rintro e w5 ⟨⟨⟨p1,p2,p3,p4,p5,p6,p7,p8,p9⟩,ec,ay,rfl⟩,aB⟩;unfold Ky;simp only;have iw:=Ut.out.trans aB;have kA:=hS0.out _ iw;have hbx:=aB.heap hbn (by simp);obtain⟨g0,g1,g2,g3,g4,g5,g6⟩:=c7 hbx;obtain⟨n0,n1,n2,n3,n4,n5,n6,_⟩:=z7 hbx))
      ·have bI:=af (hO3.out.trans (hO.out.trans (iw.alloc (.cells #[.string p1,.int .u32 p2,.bool p3,.int .i64 p4,.int .u64 p5,.string p6,.slice p7 p8 p9] 363))))
       have q:(ec !=0)=true:=by simpa using ay
       change Hid _ at ay;clear aB iw hor kA kW kB kB2 hbn Ut wG;generalize(w5.alloc (.cells #[.string p1,.int .u32 p2,.bool p3,.int .i64 p4,.int .u64 p5,.string p6,.slice p7 p8 p9] 363))=w6 at*;go_wp2_with fail
       go_ret2
       exact jc aF.out ay.out bI.out
      ·obtain⟨hrow,bI⟩:=s7 hbx (.string p1) (.int .u32 p2) (.bool p3) (.int .i64 p4) (.int .u64 p5) (.string p6) (.slice p7 p8 p9)
       replace bI:=af (hO3.out.trans (hO.out.trans (iw.trans' bI (fun y hy=>.inr (by simp at hy;omega)))));have q:(ec !=0)=true:=by simpa using ay
       change Hid _ at ay;clear hrow aB iw kA kW kB kB2 hbn Ut wG hbx g0 g1 g2 g3 g4 g5 g6 n0 n1 n2 n3 n4 n5 n6;generalize(((((((w5.setCell ⟨wr.heap.size,0,none⟩ (.string p1)).setCell ⟨wr.heap.size,1,none⟩ (.int .u32 p2)).setCell ⟨wr.heap.size,2,none⟩ (.bool p3)).setCell ⟨wr.heap.size,3,none⟩ (.int .i64 p4)).setCell ⟨wr.heap.size,4,none⟩ (.int .u64 p5)).setCell ⟨wr.heap.size,5,none⟩ (.string p6)).setCell ⟨wr.heap.size,6,none⟩ (.slice p7 p8 p9))=w6 at*;go_wp2_with fail
       go_ret2
       exact jc aF.out ay.out bI.out
     |true=>
      replace wG:=wG.out;rw[hr]at wG;have hg:=af (hnext hr);have hl1:=af (show(L.length+1)*80<=140737488355328 by omega);have hl2:=af (show L.length+1<=maxLen by unfold maxLen;omega);change Hid _ at Rc hlen wG;replace hO:=af hO;replace hS:=af hS;clear hnext hbad hgood hr;go_wp2_with fail
      go_region_held3(fun W'=>W'.cell? ⟨b1,o1+k*4+3,none⟩=some (.string key)/\W'.cell? ⟨b2,o2+k*4+3,none⟩=some (.string t)) (first|with_reducible exact kA|with_reducible exact kW|with_reducible exact kB|go_keep)
       (first
        |(go_at_call 400;(with_reducible refine(wG.out wr.drew (ai.refl [] wr).drew).mono ?_);rintro e w5 ⟨⟨⟨p1,p2,p3,p4,p5,p6,p7,p8,p9⟩,rfl⟩,aB⟩;unfold Ky;simp only;have iw:=(ai.refl [] wr).drew.trans aB;have kA:=hS0.out _ iw;have hor:Hid (True):=af trivial)
        |(go_at_call 400;(with_reducible refine(wG.out _ Ut.out).mono ?_);rintro e w5 ⟨⟨⟨p1,p2,p3,p4,p5,p6,p7,p8,p9⟩,rfl⟩,aB⟩;unfold Ky;simp only;have iw:=Ut.out.trans aB;have kA:=hS0.out _ iw;have hbx:=aB.heap hbn (by simp);obtain⟨g0,g1,g2,g3,g4,g5,g6⟩:=c7 hbx;obtain⟨n0,n1,n2,n3,n4,n5,n6,_⟩:=z7 hbx))
      ·have hrow:=heap_alloc_new w5 (.cells #[.string p1,.int .u32 p2,.bool p3,.int .i64 p4,.int .u64 p5,.string p6,.slice p7 p8 p9] 363)
       have bI:=iw.alloc (.cells #[.string p1,.int .u32 p2,.bool p3,.int .i64 p4,.int .u64 p5,.string p6,.slice p7 p8 p9] 363);clear aB iw hor kA kW kB kB2 hbn Ut wG;generalize(w5.alloc (.cells #[.string p1,.int .u32 p2,.bool p3,.int .i64 p4,.int .u64 p5,.string p6,.slice p7 p8 p9] 363))=w6 at*;generalize w5.heap.size=pb at*;obtain⟨i0,i1,i2,i3,i4,i5,i6⟩:=c7 hrow;have gU:=hO.out.trans bI;have iV:=af (gU.alloc (.cells #[.string p1,.int .u32 p2,.bool p3,.int .i64 p4,.int .u64 p5,.string p6,.slice p7 p8 p9] 363));have MG:=af (hS.out.nil' (bI.alloc (.cells #[.string p1,.int .u32 p2,.bool p3,.int .i64 p4,.int .u64 p5,.string p6,.slice p7 p8 p9] 363)));have hRb:=af (aA.new (enc:=Ky) (T:=363) w6 ⟨p1,p2,p3,p4,p5,p6,p7,p8,p9⟩ 1);clear hrow bI gU;go_wp2_with(at_builtin;refine aO rfl (.tmp 56) (.tmp 58) rfl OJ iV.out rfl MG.out rfl hRb.out (by have hq:=hl1.out;simp only[List.length_singleton];exact hq) (by have hq:=hl2.out;simp only[List.length_singleton];exact hq) ?_;intro va9 w9 wI o7 _ hg2 hg3;obtain⟨aa,ca,rfl⟩:=wI.sl;replace o7:=af o7;replace wI:=af wI;clear hg2 hg3)
       go_roundg(K.length-(k+1))
       case measure=>omega
       case rel=>exact⟨k+1,L++[⟨p1,p2,p3,p4,p5,p6,p7,p8,p9⟩],by omega,rfl,by simp,o7.out,by have hh:=wI.out;rw[List.length_append]at hh;exact hh,by rw[List.length_append,Rc.out];rfl,hg.out⟩
      ·obtain⟨hrow,bI⟩:=s7 hbx (.string p1) (.int .u32 p2) (.bool p3) (.int .i64 p4) (.int .u64 p5) (.string p6) (.slice p7 p8 p9)
       replace bI:=iw.trans' bI (fun y hy=>.inr (by simp at hy;omega));clear aB iw kA kW kB kB2 hbn Ut wG hbx g0 g1 g2 g3 g4 g5 g6 n0 n1 n2 n3 n4 n5 n6;generalize(((((((w5.setCell ⟨wr.heap.size,0,none⟩ (.string p1)).setCell ⟨wr.heap.size,1,none⟩ (.int .u32 p2)).setCell ⟨wr.heap.size,2,none⟩ (.bool p3)).setCell ⟨wr.heap.size,3,none⟩ (.int .i64 p4)).setCell ⟨wr.heap.size,4,none⟩ (.int .u64 p5)).setCell ⟨wr.heap.size,5,none⟩ (.string p6)).setCell ⟨wr.heap.size,6,none⟩ (.slice p7 p8 p9))=w6 at*;generalize wr.heap.size=pb at*;obtain⟨i0,i1,i2,i3,i4,i5,i6⟩:=c7 hrow;have gU:=hO.out.trans bI;have iV:=af (gU.alloc (.cells #[.string p1,.int .u32 p2,.bool p3,.int .i64 p4,.int .u64 p5,.string p6,.slice p7 p8 p9] 363));have MG:=af (hS.out.nil' (bI.alloc (.cells #[.string p1,.int .u32 p2,.bool p3,.int .i64 p4,.int .u64 p5,.string p6,.slice p7 p8 p9] 363)));have hRb:=af (aA.new (enc:=Ky) (T:=363) w6 ⟨p1,p2,p3,p4,p5,p6,p7,p8,p9⟩ 1);clear hrow bI gU;go_wp2_with(at_builtin;refine aO rfl (.tmp 56) (.tmp 58) rfl OJ iV.out rfl MG.out rfl hRb.out (by have hq:=hl1.out;simp only[List.length_singleton];exact hq) (by have hq:=hl2.out;simp only[List.length_singleton];exact hq) ?_;intro va9 w9 wI o7 _ hg2 hg3;obtain⟨aa,ca,rfl⟩:=wI.sl;replace o7:=af o7;replace wI:=af wI;clear hg2 hg3)
       go_roundg(K.length-(k+1))
       case measure=>omega
       case rel=>exact⟨k+1,L++[⟨p1,p2,p3,p4,p5,p6,p7,p8,p9⟩],by omega,rfl,by simp,o7.out,by have hh:=wI.out;rw[List.length_append]at hh;exact hh,by rw[List.length_append,Rc.out];rfl,hg.out⟩
    ·have k1: ¬(k:Int)<K.length:=by omega
     rw[List.take_of_length_le (by omega)]at hgood;have jd:ok=true:=by rw[<-hok.out];exact hgood
     change Hid _ at jd;replace hO:=af (hO3.out.trans hO);clear hgood hS hok gu hR2;go_wp2_with fail
     go_ret2
     exact F9 jd.out hO.out
theorem I4: ∀(n:Nat) (deep:Int),deep+n=9->0<=deep->OL (o8 n) deep
 |0,deep,h,_=>OM deep (by omega) _ (fun _=>rfl)
 |n+1,deep,h,h0=>OO n deep ⟨h0,by omega⟩ (I4 n (deep+1) (by omega) (by omega)).str
theorem I5(t:ByteArray)(W:World)(ht:t.size<=4096)(hK:aN W): ∃w1 c,(convert 9 23 (.string t)).run Tryz.prog W=.ok (.slice (some ⟨W.heap.size,0,none⟩) t.size c) w1/\ai [] W w1/\
  Calls Tryz.prog 383 #[.slice (some ⟨W.heap.size,0,none⟩) t.size c] w1 (j4 (o8 8 (ak t)) W):=by
 obtain⟨w1,c,h1,h2,h3⟩:=(I4 8 1 (by decide) (by decide)).str t W ht hK;refine⟨w1,c,h1,h2,?_⟩;replace h3:=af h3;generalize o8 8 (ak t)=ok at*;go_enter Tryz.func383,Tryz.ntmps383
 go_wp2_with fail
 refine h3.out.mono ?_;intro e w2 hp;cases ok with
 |false=>
  obtain⟨⟨ec,ay,rfl⟩,hO⟩:=hp;change Hid _ at ay hO;go_wp2_with fail
  go_ret2
  exact jc rfl ay.out hO.out
 |true=>
  obtain⟨⟨a,n,c,rfl⟩,hO⟩:=hp;change Hid _ at hO;go_wp2_with fail
  go_ret2
  exact F9 rfl hO.out
theorem R9(f:bG)(w:World):Calls Tryz.prog 417 #[.agg (fL f).toArray] w fun e w'=>e=.returned (.bool (f.kind !=2))/\ai [] w w':=by
 have hA:=(ai.refl [] w).alloc (.cells (fL f).toArray 100);obtain⟨n,k,v,t⟩:=f;unfold fL at*;go_enter Tryz.func417,Tryz.ntmps417
 go_wp2_with fail
 go_ret
 exact⟨rfl,hA⟩
theorem Kw(v:Value)(l:List bG)(w:World)(h:aA fL w v l)(hl:l.length<=256):
  Calls Tryz.prog 419 #[v,.func (.func 417) #[] #[]] w fun e w'=> ∃n:Int,e=.returned (.int .i64 n)/\decide (0<=n)= !(l.all fun x=>x.kind==2)/\ai [] w w':=by
 obtain⟨sa,sc,rfl⟩:=h.form;obtain⟨R,hR⟩: ∃R,(l.all fun x=>x.kind==2)=R:=⟨_,rfl⟩;rw[hR];change Hid _ at hR;go_enter Tryz.func419,Tryz.ntmps419
 go_wp2_with fail
 go_loopg[8] l.length (fun g s8 wr=> ∃k:Nat,k<=l.length/\g=l.length-k/\s8=.int .i64 k/\Aside (ai [] w wr/\(l.take k).all (fun x=>x.kind==2)=true))
 case atStart=>exact⟨0,by omega,by omega,rfl,ai.refl _ _,by simp⟩
 case round=>
  obtain⟨k,hk,rfl,rfl,hO,hgood⟩:=hrel;have k0:(0:Int)<=k:=by omega
  by_cases hlt:k<l.length
  ·have k1:(k:Int)<l.length:=by omega
   have hwk:IntKind.i64.wrap ((k:Int)+1)=(k:Int)+1:=IntWalk.i64_in _ (by omega);obtain⟨b,o,rfl,c0,c1,c2,c3⟩:=(h.nil' hO).fld hlt;have hnext:(l[k].kind==2)=true->(l.take (k+1)).all (fun x=>x.kind==2)=true:=fun hh=>by
    rw[List.take_succ_eq_append_getElem hlt,List.all_append,hgood];simpa using hh
   have hbad:(l[k].kind==2)=false->R=false:=fun hh=>by
    rw[<-hR.out,List.all_eq_false];exact⟨l[k],List.getElem_mem hlt,by simp[hh]⟩
   generalize l[k]=f at*;have cD:=R9 f wr;obtain⟨f1,f2,f3,f4⟩:=f;unfold fL at cD;simp only at*;replace hO:=af hO;cases q:f2==2
   ·have hb:=af (hbad q)
    rw[show(f2 !=2)=true by simp[bne,q]]at cD;replace cD:=af cD;clear hnext hbad hgood h q;go_wp2_with fail
    refine cD.out.mono ?_;rintro e w5 ⟨rfl,aB⟩;replace aB:=af (hO.out.trans aB);go_wp2_with fail
    go_ret
    exact⟨(k:Int),rfl,by rw[hb.out];simp,aB.out⟩
   ·have hg:=af (hnext q)
    rw[show(f2 !=2)=false by simp[bne,q]]at cD;replace cD:=af cD;clear hnext hbad hgood h q;go_wp2_with fail
    refine cD.out.mono ?_;rintro e w5 ⟨rfl,aB⟩;replace aB:=af (hO.out.trans aB);go_wp2_with fail
    go_roundg(l.length-(k+1))
    case measure=>omega
    case rel=>exact⟨k+1,by omega,rfl,by simp,aB.out,hg.out⟩
  ·have k1: ¬(k:Int)<l.length:=by omega
   rw[List.take_of_length_le (by omega)]at hgood;have Et:R=true:=by rw[<-hR.out];exact hgood
   change Hid _ at Et;replace hO:=af hO;clear hgood h;go_wp2_with fail
   go_ret
   exact⟨-1,rfl,by rw[Et.out];rfl,hO.out⟩
theorem F8(v:Value)(l:List bG)(w:World)(h:aA fL w v l)(hl:l.length<=256):
  Calls Tryz.prog 416 #[v,.func (.func 417) #[] #[]] w fun e w'=>e=.returned (.bool (!(l.all fun x=>x.kind==2)))/\ai [] w w':=by
 obtain⟨sa,sc,rfl⟩:=h.form;have cI:=af (Kw _ l w h hl);clear h;generalize(!(l.all fun x=>x.kind==2))=R at*;go_enter Tryz.func416,Tryz.ntmps416
 go_wp2_with fail
 refine cI.out.mono ?_;rintro e w2 ⟨n,rfl,hn,hO⟩;change Hid _ at hO hn;go_wp2_with fail
 go_ret
 exact⟨by rw[<-hn.out];rfl,hO.out⟩
def oI(kX:Nat)(B:List Int):Bool:=match sj B with
 |none=>false
 |some l=>decide ((aX l 1).length=kX)&&(aX l 1).all (fun x=>x.kind==2)&&(aX l 1).all pX
def oW(w:World)(g N:Nat)(T:TypeId):Prop:= ∃cur:Array Value,w.heap[g]?=some (.cells cur T (0,0))/\cur.size=N
theorem oW.own{S:List Nat}{w w':World}{g N:Nat}{T:TypeId}(h:oW w g N T)(ho:ai S w w')(hg:g∉S):oW w' g N T:=by
 obtain⟨cur,h1,h2⟩:=h;exact⟨cur,ho.heap h1 hg,h2⟩
theorem oW.lt{w:World}{g N:Nat}{T:TypeId}(h:oW w g N T):g<w.heap.size:=by
 obtain⟨cur,h1,_⟩:=h;exact aj h1
theorem oW.cell{w:World}{g N:Nat}{T:TypeId}(h:oW w g N T){j:Nat}(hj:j<N): ∃u,w.cell? ⟨g,j,none⟩=some u/\w.frozen? ⟨g,j,none⟩=false:=by
 obtain⟨cur,h1,h2⟩:=h;exact⟨cur[j],by rw[cell_of_row _ _ _ _ _ _ h1];exact Array.getElem?_eq_getElem (by omega),frozen_of_row _ _ _ _ _ h1⟩
theorem oW.set{w:World}{g N:Nat}{T:TypeId}(h:oW w g N T)(j:Nat)(u:Value):oW (w.setCell ⟨g,j,none⟩ u) g N T:=by
 obtain⟨cur,h1,h2⟩:=h;exact⟨_,heap_setCell_same w g j _ _ u h1,by simpa using h2⟩
theorem Sb:(Tryz.prog.info? 105).map (fun i=>(i.zero,i.size,i.bytes))=some (some (.agg #[.int .i64 0,.int .u64 0,.string ⟨#[]⟩]),3,32):=by kernel_rfl
theorem Ga{b c:World}(hg:b.grownBy c none):ai [] b c:=
 ⟨hg.os,hg.tape,hg.output,hg.size,fun i hi _=>hg.block i hi (by simp)⟩
theorem Gb(s:ByteArray)(kX:Nat)(w:World)(hs:s.size<=4096)(hc16:kX<=16)(hK:aN w):
  Calls Tryz.prog 402 #[.string s,.int .i64 kX] w (j4 (oI kX (ak s)) w):=by
 obtain⟨ok,hok⟩: ∃ok,oI kX (ak s)=ok:=⟨_,rfl⟩;rw[hok];unfold oI at hok;obtain⟨w1,c,hcv,aH,cW⟩:=qN s w (by omega);replace cW:=af cW;have Js:=af hK;clear hK aH;go_enter Tryz.func402,Tryz.ntmps402
 go_wp2_with fail
 refine cW.out.mono ?_;intro e w2 hp;clear cW hcv;cases hw:sj (ak s)with
 |none=>
  rw[hw]at hp hok;simp only at hok;obtain⟨⟨ec,ay,rfl⟩,hO2⟩:=hp;have aF:=af hok.symm;have q:(ec !=0)=true:=by simpa using ay
  change Hid _ at ay;replace hO2:=af hO2;clear hw hok;go_wp2_with fail
  go_ret2
  exact jc aF.out ay.out hO2.out
 |some l=>
  rw[hw]at hp hok;simp only at hok;obtain⟨⟨aT,rfl,hS⟩,hO2⟩:=hp;obtain⟨hll,hf⟩:=mG (bN s) hw;have cA:=af (qf aT l 1 w2 (hS.reads dX) hll);obtain⟨oa,oc,rfl⟩:=hS.sl;have hfC:=af (fun f hf'=>((tJ hf 1) f hf').t);have hCl:=pY l 1;replace hO2:=af hO2;clear hw hS hf;go_wp2_with fail
  refine cA.out.mono ?_;rintro e w3 ⟨cv,rfl,rO,hO3⟩;generalize aX l 1=C at*;have cC:=af (F8 cv C w3 (rO.reads dX) (by omega));have hRC:=af (rO.reads dX);obtain⟨ca,cc,rfl⟩:=rO.sl;replace hO3:=af (hO2.out.trans hO3);clear rO cA hO2;by_cases hlen:C.length=kX
  ·have q:((C.length:Int)!=(kX:Int))=false:=by simp[hlen]
   rw[show decide (C.length=kX)=true by simpa using hlen,Bool.true_and]at hok;change Hid _ at hlen;obtain⟨al,hal⟩: ∃al,(C.all fun x=>x.kind==2)=al:=⟨_,rfl⟩;rw[hal]at cC hok;cases al with
   |false=>
    have aF:ok=false:=by simpa using hok.symm
    change Hid _ at aF;clear hal hok;go_wp2_with(go_at_call 416;(with_reducible refine cC.out.mono ?_);rintro e w4 ⟨rfl,hO4⟩;replace hO4:=af (hO3.out.trans hO4))
    go_ret2
    exact jc aF.out (by decide) hO4.out
   |true=>
    have hok2:C.all pX=ok:=by simpa using hok
    change Hid _ at hok2;clear hal hok;go_wp2_with(go_at_call 416;(with_reducible refine cC.out.mono ?_);rintro e w4 ⟨rfl,hO4⟩;replace hO4:=af hO4;obtain⟨inf,i1,i2,i3,i4⟩:=info_parts Sb;obtain⟨w6,hmk,WQ,WR⟩:=run_make_full (P:=Tryz.prog) w4 w4.heap.size 303 105 inf _ 3 Tryz.underlying303 i1 i2 i3 .i64 .i64 kX (by rw[i4];omega) (by unfold maxLen;omega) (Nat.le_refl _))
    have Zc:oW w6 w4.heap.size (kX*3) 105:=by
     obtain⟨h1,h2|⟨g,cap,cur,he,hb,hg,h3,h4,h5,h6⟩⟩:=WQ
     ·cases h2.1
     ·cases he
      exact⟨cur,hg,h5⟩
    have WS:ai [] w4 w6:=Ga WR;have bI:=af (hO3.out.trans (hO4.out.trans WS));have hR6:=af ((hRC.out.nil' hO4.out).nil' WS);have hwg:w.heap.size<=w4.heap.size:=(hO3.out.trans hO4.out).size;have hRl: ∀b,(Value.slice ca C.length cc).ownBlock=some b->b<w4.heap.size\/C.length=0:=fun b hb=>by
     rcases hRC.out.nil' hO4.out with⟨h1,h2⟩|⟨b',o',c',h1,h2⟩
     ·exact .inr (by rw[h2];rfl)
     ·cases h1
      by_cases h0:C.length=0
      ·exact .inr h0
      ·refine .inl ?_
       have hq:(aC fL C)[0]?=some ((aC fL C)[0]'(by rw[aW dX];omega)):=List.getElem?_eq_getElem _;have:=block_lt_of_cell (h2 0 _ hq);simp[Value.ownBlock]at hb;subst hb;exact this
    change Hid _ at hRl Zc;clear hmk WQ WR WS hO4 hRC cC i1 i2 i3 i4;generalize w4.heap.size=gb at*;go_loopg[34] kX (fun g s34 wr=> ∃k:Nat,k<=kX/\g=kX-k/\s34=.int .i64 k/\Aside (ai [gb] w6 wr/\oW wr gb (kX*3) 105/\ai [] w wr/\(C.take k).all pX=true))
    case atStart=>exact⟨0,by omega,by omega,rfl,ai.refl _ _,Zc.out,bI.out,by simp⟩
    case round=>
     obtain⟨k,hk,rfl,rfl,XW,Zd,eu,hgood⟩:=hrel;have k0:(0:Int)<=k:=by omega
     by_cases hlt:k<kX
     ·have k1:(k:Int)<kX:=by omega
      have hwk:IntKind.i64.wrap ((k:Int)+1)=(k:Int)+1:=IntWalk.i64_in _ (by omega);have Uu:k<C.length:=by rw[hlen.out];exact hlt
      have k1C:(k:Int)<C.length:=by omega
      have hRk:=hR6.out.own XW (fun b hb=>by have:=hRl.out b hb;simp;omega);obtain⟨b,o,rfl,_,_,_,x3⟩:=hRk.fld Uu;have hnext:pX C[k]=true->(C.take (k+1)).all pX=true:=fun hh=>by
       rw[List.take_succ_eq_append_getElem Uu,List.all_append,hgood];simp[hh]
      have hbad:pX C[k]=false->ok=false:=fun hh=>by
       rw[<-hok2.out,List.all_eq_false];exact⟨C[k],List.getElem_mem Uu,by simp[hh]⟩
      have hsz:=hfC.out C[k] (List.getElem_mem Uu);unfold pX at hnext hbad;generalize C[k].text=t at*;obtain⟨w7,c7',hcv,gU,cW⟩:=qN t wr (by omega);replace cW:=af cW;clear hRk Zc;go_wp2_with fail
      refine cW.out.mono ?_;intro e w8 hp;clear cW hcv;cases hwo:sj (ak t)with
      |none=>
       rw[hwo]at hp hbad hnext;obtain⟨⟨ec,ay,rfl⟩,iV⟩:=hp;have aF:=af (hbad rfl);have q:(ec !=0)=true:=by simpa using ay
       change Hid _ at ay;replace iV:=af (eu.trans iV);clear hnext hbad hgood hwo XW Zd eu;go_wp2_with fail
       go_ret2
       exact jc aF.out ay.out iV.out
      |some fl=>
       rw[hwo]at hp hbad hnext;simp only at hbad hnext;obtain⟨⟨fv,rfl,Jt⟩,iV⟩:=hp;obtain⟨hfl,WT⟩:=mG (bN t) hwo;have cV:=wB fv fl 1 false w8 (Jt.reads dX) hfl WT (by omega) (Js.out.own (eu.trans iV));obtain⟨fa,fc,rfl⟩:=Jt.sl;have hB8:=Zd.own iV (by simp);have WU:=XW.trans iV.nil;have Uv:=eu.trans iV;unfold tK at cV;cases hv:MU 1 false fl with
       |none=>
        rw[hv]at cV hbad;have aF:=af (hbad rfl);replace cV:=af cV;clear hnext hbad hgood hwo XW Zd eu Jt WT hv iV;go_wp2_with fail
        refine cV.out.mono ?_;rintro e w9 ⟨⟨⟨y1,y2,y3⟩,ec,ay,rfl⟩,o7⟩;unfold PV.val;simp only;have Rf:=hB8.own o7 (by simp);obtain⟨u0,c0,z0⟩:=Rf.cell (j:=k*3) (by omega);obtain⟨u1,c1,z1⟩:=Rf.cell (j:=k*3+1) (by omega);obtain⟨u2,c2,z2⟩:=Rf.cell (j:=k*3+2) (by omega);have q:(ec !=0)=true:=by simpa using ay
        have o6:=af ((((Uv.trans o7).setCell (p:=⟨gb,k*3,none⟩) (.inr hwg) (.int .i64 y1)).setCell (p:=⟨gb,k*3+1,none⟩) (.inr hwg) (.int .u64 y2)).setCell (p:=⟨gb,k*3+2,none⟩) (.inr hwg) (.string y3));change Hid _ at ay;clear Rf hB8 o7 Uv WU;go_wp2_with fail
        go_ret2
        exact jc aF.out ay.out o6.out
       |some y=>
        rw[hv]at cV hnext;have hg:=af (hnext rfl);replace cV:=af cV;clear hnext hbad hgood hwo XW Zd eu Jt WT hv iV;go_wp2_with fail
        refine cV.out.mono ?_;rintro e w9 ⟨rfl,o7⟩;obtain⟨y1,y2,y3⟩:=y;unfold PV.val;simp only;have Rf:=hB8.own o7 (by simp);obtain⟨u0,c0,z0⟩:=Rf.cell (j:=k*3) (by omega);obtain⟨u1,c1,z1⟩:=Rf.cell (j:=k*3+1) (by omega);obtain⟨u2,c2,z2⟩:=Rf.cell (j:=k*3+2) (by omega);have o6:=af ((((Uv.trans o7).setCell (p:=⟨gb,k*3,none⟩) (.inr hwg) (.int .i64 y1)).setCell (p:=⟨gb,k*3+1,none⟩) (.inr hwg) (.int .u64 y2)).setCell (p:=⟨gb,k*3+2,none⟩) (.inr hwg) (.string y3));have abH:=af ((((WU.trans o7.nil).setCell (p:=⟨gb,k*3,none⟩) (.inl (by simp)) (.int .i64 y1)).setCell (p:=⟨gb,k*3+1,none⟩) (.inl (by simp)) (.int .u64 y2)).setCell (p:=⟨gb,k*3+2,none⟩) (.inl (by simp)) (.string y3));have hBf:=af (((Rf.set (k*3) (.int .i64 y1)).set (k*3+1) (.int .u64 y2)).set (k*3+2) (.string y3));clear Rf hB8 o7 Uv WU;go_wp2_with fail
        go_roundg(kX-(k+1))
        case measure=>omega
        case rel=>exact⟨k+1,by omega,rfl,by simp,abH.out,hBf.out,o6.out,hg.out⟩
     ·have k1: ¬(k:Int)<kX:=by omega
      rw[List.take_of_length_le (by rw[hlen.out];omega)]at hgood;have jd:ok=true:=by rw[<-hok2.out];exact hgood
      change Hid _ at jd eu;clear hgood XW Zd Zc;go_wp2_with fail
      go_ret2
      exact F9 jd.out eu.out
  ·have aF:ok=false:=by
    rw[show decide (C.length=kX)=false by simpa using hlen]at hok;simpa using hok.symm
   have q:((C.length:Int)!=(kX:Int))=true:=by simp;omega
   change Hid _ at aF;clear hok hlen cC;go_wp2_with fail
   go_ret2
   exact jc aF.out (by decide) hO3.out
theorem Lu(f:bG)(bb mb i:Nat)(u:Value)(w:World)(hb:w.cell? ⟨bb,0,none⟩=some (.pointer (some ⟨mb,i,none⟩)))(hc:w.cell? ⟨mb,i,none⟩=some u)(hz:w.frozen? ⟨mb,i,none⟩=false):
  Calls Tryz.prog 408 #[.agg (fL f).toArray,.pointer (some ⟨bb,0,none⟩)] w (aL (decide (f.val<=1)) w mb i (.bool (f.val==1))):=by
 have hlb:=block_lt_of_cell hb;have hlc:=block_lt_of_cell hc;have hA:=(ai.refl [] w).alloc (.cells (fL f).toArray 100);have hb2:=(hA.cell hlb (by simp)).trans hb;have hc2:=(hA.cell hlc (by simp)).trans hc;have hz2:(w.alloc (.cells (fL f).toArray 100)).frozen? ⟨mb,i,none⟩=false:=(jw hA hlc (by simp)).trans hz;have hS:=jh.of (w:=w) (b:=mb) (i:=i) (v:=.bool (f.val==1)) (.cells (fL f).toArray 100);obtain⟨n,k,v,t⟩:=f;unfold fL at*;simp only at*;by_cases h1:v<=1
 ·have q:decide (v<=1)=true:=by simpa using h1
  have hv: ¬1<v:=by omega
  rw[q];go_enter Tryz.func408,Tryz.ntmps408
  go_wp2_with fail
  go_ret
  exact⟨rfl,hS⟩
 ·have q:decide (v<=1)=false:=by simpa using h1
  have hv:1<v:=by omega
  rw[q];clear hS;go_enter Tryz.func408,Tryz.ntmps408
  go_wp2_with fail
  go_ret
  exact⟨⟨5,by decide,rfl⟩,hA⟩
theorem nR(f:bG)(bb mb i:Nat)(u:Value)(w:World)(hb:w.cell? ⟨bb,0,none⟩=some (.pointer (some ⟨mb,i,none⟩)))(hc:w.cell? ⟨mb,i,none⟩=some u)(hz:w.frozen? ⟨mb,i,none⟩=false):
  Calls Tryz.prog 410 #[.agg (fL f).toArray,.pointer (some ⟨bb,0,none⟩)] w (aL (true) w mb i (.string f.text)):=by
 have hlb:=block_lt_of_cell hb;have hlc:=block_lt_of_cell hc;have hA:=(ai.refl [] w).alloc (.cells (fL f).toArray 100);have hb2:=(hA.cell hlb (by simp)).trans hb;have hc2:=(hA.cell hlc (by simp)).trans hc;have hz2:(w.alloc (.cells (fL f).toArray 100)).frozen? ⟨mb,i,none⟩=false:=(jw hA hlc (by simp)).trans hz;have hS:=jh.of (w:=w) (b:=mb) (i:=i) (v:=.string f.text) (.cells (fL f).toArray 100);obtain⟨n,k,v,t⟩:=f;unfold fL at*;simp only at*;go_enter Tryz.func410,Tryz.ntmps410
 go_wp2_with fail
 go_ret
 exact⟨rfl,hS⟩
theorem vO(f:bG)(bb mb i:Nat)(u:Value)(w:World)(hb:w.cell? ⟨bb,0,none⟩=some (.pointer (some ⟨mb,i,none⟩)))(hc:w.cell? ⟨mb,i,none⟩=some u)(hz:w.frozen? ⟨mb,i,none⟩=false):
  Calls Tryz.prog 412 #[.agg (fL f).toArray,.pointer (some ⟨bb,0,none⟩)] w (aL (true) w mb i (.int .u64 f.val)):=by
 have hlb:=block_lt_of_cell hb;have hlc:=block_lt_of_cell hc;have hA:=(ai.refl [] w).alloc (.cells (fL f).toArray 100);have hb2:=(hA.cell hlb (by simp)).trans hb;have hc2:=(hA.cell hlc (by simp)).trans hc;have hz2:(w.alloc (.cells (fL f).toArray 100)).frozen? ⟨mb,i,none⟩=false:=(jw hA hlc (by simp)).trans hz;have hS:=jh.of (w:=w) (b:=mb) (i:=i) (v:=.int .u64 f.val) (.cells (fL f).toArray 100);obtain⟨n,k,v,t⟩:=f;unfold fL at*;simp only at*;go_enter Tryz.func412,Tryz.ntmps412
 go_wp2_with fail
 go_ret
 exact⟨rfl,hS⟩
def GU(num kd:Int)(tl tk:FuncId)(p:Addr)(w:World)(e:Ending)(w':World):Prop:=
 ∃b,e=.returned (.agg #[.int .i64 num,.int .i64 kd,.func (.func tl) #[] #[.pointer (some ⟨b,0,none⟩)],.func (.func tk) #[] #[.pointer (some ⟨b,0,none⟩)]])/\w'.cell? ⟨b,0,none⟩=some (.pointer (some p))/\w.heap.size<=b/\ai [] w w'
theorem Lv(num:Int)(p:Addr)(w:World):Calls Tryz.prog 396 #[.int .i64 num,.pointer (some p)] w (GU num 0 407 408 p w):=by
 have hA:=(ai.refl [] w).alloc (.cells #[.pointer (some p)] 521);have hc:(w.alloc (.cells #[.pointer (some p)] 521)).cell? ⟨w.heap.size,0,none⟩=some (.pointer (some p)):=cell_of_row _ _ 0 _ _ _ (heap_alloc_new w (.cells #[.pointer (some p)] 521));go_enter Tryz.func396,Tryz.ntmps396
 go_wp2_with fail
 have hO2:=hA.alloc (.cells #[.int .i64 num,.int .i64 0,.func (.func 407) #[] #[.pointer (some ⟨w.heap.size,0,none⟩)],.func (.func 408) #[] #[.pointer (some ⟨w.heap.size,0,none⟩)]] 527);have hc2:=(((ai.refl [] _).alloc (.cells #[.int .i64 num,.int .i64 0,.func (.func 407) #[] #[.pointer (some ⟨w.heap.size,0,none⟩)],.func (.func 408) #[] #[.pointer (some ⟨w.heap.size,0,none⟩)]] 527)).cell (block_lt_of_cell hc) (by simp)).trans hc;obtain⟨⟨g0,g1,g2,g3⟩,-⟩:=q4 (heap_alloc2_new w (.cells #[.pointer (some p)] 521) (.cells #[.int .i64 num,.int .i64 0,.func (.func 407) #[] #[.pointer (some ⟨w.heap.size,0,none⟩)],.func (.func 408) #[] #[.pointer (some ⟨w.heap.size,0,none⟩)]] 527));exact bodyPost_ret (v:=.agg #[.int .i64 num,.int .i64 0,.func (.func 407) #[] #[.pointer (some ⟨w.heap.size,0,none⟩)],.func (.func 408) #[] #[.pointer (some ⟨w.heap.size,0,none⟩)]]) (by simp[results,Tryz.results396,go_sem,g0,g1,g2,g3];try rfl) rfl ⟨_,rfl,hc2,Nat.le_refl _,hO2⟩
theorem nS(num:Int)(p:Addr)(w:World):Calls Tryz.prog 397 #[.int .i64 num,.pointer (some p)] w (GU num 2 409 410 p w):=by
 have hA:=(ai.refl [] w).alloc (.cells #[.pointer (some p)] 515);have hc:(w.alloc (.cells #[.pointer (some p)] 515)).cell? ⟨w.heap.size,0,none⟩=some (.pointer (some p)):=cell_of_row _ _ 0 _ _ _ (heap_alloc_new w (.cells #[.pointer (some p)] 515));go_enter Tryz.func397,Tryz.ntmps397
 go_wp2_with fail
 have hO2:=hA.alloc (.cells #[.int .i64 num,.int .i64 2,.func (.func 409) #[] #[.pointer (some ⟨w.heap.size,0,none⟩)],.func (.func 410) #[] #[.pointer (some ⟨w.heap.size,0,none⟩)]] 527);have hc2:=(((ai.refl [] _).alloc (.cells #[.int .i64 num,.int .i64 2,.func (.func 409) #[] #[.pointer (some ⟨w.heap.size,0,none⟩)],.func (.func 410) #[] #[.pointer (some ⟨w.heap.size,0,none⟩)]] 527)).cell (block_lt_of_cell hc) (by simp)).trans hc;obtain⟨⟨g0,g1,g2,g3⟩,-⟩:=q4 (heap_alloc2_new w (.cells #[.pointer (some p)] 515) (.cells #[.int .i64 num,.int .i64 2,.func (.func 409) #[] #[.pointer (some ⟨w.heap.size,0,none⟩)],.func (.func 410) #[] #[.pointer (some ⟨w.heap.size,0,none⟩)]] 527));exact bodyPost_ret (v:=.agg #[.int .i64 num,.int .i64 2,.func (.func 409) #[] #[.pointer (some ⟨w.heap.size,0,none⟩)],.func (.func 410) #[] #[.pointer (some ⟨w.heap.size,0,none⟩)]]) (by simp[results,Tryz.results397,go_sem,g0,g1,g2,g3];try rfl) rfl ⟨_,rfl,hc2,Nat.le_refl _,hO2⟩
theorem vP(num:Int)(p:Addr)(w:World):Calls Tryz.prog 398 #[.int .i64 num,.pointer (some p)] w (GU num 0 411 412 p w):=by
 have hA:=(ai.refl [] w).alloc (.cells #[.pointer (some p)] 517);have hc:(w.alloc (.cells #[.pointer (some p)] 517)).cell? ⟨w.heap.size,0,none⟩=some (.pointer (some p)):=cell_of_row _ _ 0 _ _ _ (heap_alloc_new w (.cells #[.pointer (some p)] 517));go_enter Tryz.func398,Tryz.ntmps398
 go_wp2_with fail
 have hO2:=hA.alloc (.cells #[.int .i64 num,.int .i64 0,.func (.func 411) #[] #[.pointer (some ⟨w.heap.size,0,none⟩)],.func (.func 412) #[] #[.pointer (some ⟨w.heap.size,0,none⟩)]] 527);have hc2:=(((ai.refl [] _).alloc (.cells #[.int .i64 num,.int .i64 0,.func (.func 411) #[] #[.pointer (some ⟨w.heap.size,0,none⟩)],.func (.func 412) #[] #[.pointer (some ⟨w.heap.size,0,none⟩)]] 527)).cell (block_lt_of_cell hc) (by simp)).trans hc;obtain⟨⟨g0,g1,g2,g3⟩,-⟩:=q4 (heap_alloc2_new w (.cells #[.pointer (some p)] 517) (.cells #[.int .i64 num,.int .i64 0,.func (.func 411) #[] #[.pointer (some ⟨w.heap.size,0,none⟩)],.func (.func 412) #[] #[.pointer (some ⟨w.heap.size,0,none⟩)]] 527));exact bodyPost_ret (v:=.agg #[.int .i64 num,.int .i64 0,.func (.func 411) #[] #[.pointer (some ⟨w.heap.size,0,none⟩)],.func (.func 412) #[] #[.pointer (some ⟨w.heap.size,0,none⟩)]]) (by simp[results,Tryz.results398,go_sem,g0,g1,g2,g3];try rfl) rfl ⟨_,rfl,hc2,Nat.le_refl _,hO2⟩
def kT(w:World)(P mb i:Nat)(kd:Int)(tl tk:FuncId):Prop:=
 ∃b,(w.cell? ⟨P,4*i,none⟩=some (.int .i64 (i+1:Nat))/\w.cell? ⟨P,4*i+1,none⟩=some (.int .i64 kd)/\w.cell? ⟨P,4*i+2,none⟩=some (.func (.func tl) #[] #[.pointer (some ⟨b,0,none⟩)])/\w.cell? ⟨P,4*i+3,none⟩=some (.func (.func tk) #[] #[.pointer (some ⟨b,0,none⟩)]))/\
  w.cell? ⟨b,0,none⟩=some (.pointer (some ⟨mb,i,none⟩))/\b≠mb
theorem kT.own{S:List Nat}{w w':World}{P mb i:Nat}{kd:Int}{tl tk:FuncId}(h:kT w P mb i kd tl tk)(ho:ai S w w')(hS: ∀x∈S,x=mb)(hP:P≠mb):kT w' P mb i kd tl tk:=by
 obtain⟨b,⟨h0,h1,h2,h3⟩,h4,h5⟩:=h;have hP':P∉S:=fun hx=>hP (hS P hx)
 have hb':b∉S:=fun hx=>h5 (hS b hx)
 exact⟨b,⟨(ho.cell (block_lt_of_cell h0) hP').trans h0,(ho.cell (block_lt_of_cell h1) hP').trans h1,(ho.cell (block_lt_of_cell h2) hP').trans h2,(ho.cell (block_lt_of_cell h3) hP').trans h3⟩,(ho.cell (block_lt_of_cell h4) hb').trans h4,h5⟩
def tX(w:World)(P mb:Nat):Prop:=kT w P mb 0 0 407 408/\kT w P mb 1 2 409 410/\kT w P mb 2 0 411 412/\kT w P mb 3 0 411 412/\kT w P mb 4 2 409 410/\kT w P mb 5 2 409 410/\kT w P mb 6 2 409 410/\kT w P mb 7 2 409 410
theorem tX.own{S:List Nat}{w w':World}{P mb:Nat}(h:tX w P mb)(ho:ai S w w')(hS: ∀x∈S,x=mb)(hP:P≠mb):tX w' P mb:=by
 obtain⟨h0,h1,h2,h3,h4,h5,h6,h7⟩:=h;exact⟨h0.own ho hS hP,h1.own ho hS hP,h2.own ho hS hP,h3.own ho hS hP,h4.own ho hS hP,h5.own ho hS hP,h6.own ho hS hP,h7.own ho hS hP⟩
theorem D9(mb:Nat)(w:World)(hm:mb<w.heap.size):Calls Tryz.prog 390 #[.pointer (some ⟨mb,0,none⟩)] w fun e w'=> ∃P,e=.returned (.slice (some ⟨P,0,none⟩) 8 8)/\tX w' P mb/\P≠mb/\w.heap.size<=P/\ai [] w w':=by
 go_enter Tryz.func390,Tryz.ntmps390
 go_wp2_with fail
 go_region_held3(fun _=>True) (trivial) (first|(go_at_call 396;(with_reducible refine(Lv 1 ⟨mb,0,none⟩ _).mono ?_);rintro e w1 ⟨b0,rfl,hc0,hb0,gV⟩;replace gV:=af gV;replace hc0:=af hc0;replace hb0:=af hb0)|(go_at_call 397;(with_reducible refine(nS 2 ⟨mb,1,none⟩ _).mono ?_);rintro e w2 ⟨b1,rfl,hc1,hb1,aH⟩;replace aH:=af aH;replace hc1:=af hc1;replace hb1:=af hb1)|(go_at_call 398;(with_reducible refine(vP 3 ⟨mb,2,none⟩ _).mono ?_);rintro e w3 ⟨b2,rfl,hc2,hb2,hO2⟩;replace hO2:=af hO2;replace hc2:=af hc2;replace hb2:=af hb2)|(go_at_call 398;(with_reducible refine(vP 4 ⟨mb,3,none⟩ _).mono ?_);rintro e w4 ⟨b3,rfl,hc3,hb3,hO3⟩;replace hO3:=af hO3;replace hc3:=af hc3;replace hb3:=af hb3)|(go_at_call 397;(with_reducible refine(nS 5 ⟨mb,4,none⟩ _).mono ?_);rintro e w5 ⟨b4,rfl,hc4,hb4,hO4⟩;replace hO4:=af hO4;replace hc4:=af hc4;replace hb4:=af hb4)|(go_at_call 397;(with_reducible refine(nS 6 ⟨mb,5,none⟩ _).mono ?_);rintro e w6 ⟨b5,rfl,hc5,hb5,aB⟩;replace aB:=af aB;replace hc5:=af hc5;replace hb5:=af hb5)|(go_at_call 397;(with_reducible refine(nS 7 ⟨mb,6,none⟩ _).mono ?_);rintro e w7 ⟨b6,rfl,hc6,hb6,bI⟩;replace bI:=af bI;replace hc6:=af hc6;replace hb6:=af hb6)|(go_at_call 397;(with_reducible refine(nS 8 ⟨mb,7,none⟩ _).mono ?_);rintro e w8 ⟨b7,rfl,hc7,Ug,gU⟩;replace gU:=af gU;replace hc7:=af hc7;replace Ug:=af Ug))
 all_goals
  go_wp2_with fail
  go_ret
  have r:=heap_alloc_new w8 (.cells #[.int .i64 1,.int .i64 0,.func (.func 407) #[] #[.pointer (some ⟨b0,0,none⟩)],.func (.func 408) #[] #[.pointer (some ⟨b0,0,none⟩)],.int .i64 2,.int .i64 2,.func (.func 409) #[] #[.pointer (some ⟨b1,0,none⟩)],.func (.func 410) #[] #[.pointer (some ⟨b1,0,none⟩)],.int .i64 3,.int .i64 0,.func (.func 411) #[] #[.pointer (some ⟨b2,0,none⟩)],.func (.func 412) #[] #[.pointer (some ⟨b2,0,none⟩)],.int .i64 4,.int .i64 0,.func (.func 411) #[] #[.pointer (some ⟨b3,0,none⟩)],.func (.func 412) #[] #[.pointer (some ⟨b3,0,none⟩)],.int .i64 5,.int .i64 2,.func (.func 409) #[] #[.pointer (some ⟨b4,0,none⟩)],.func (.func 410) #[] #[.pointer (some ⟨b4,0,none⟩)],.int .i64 6,.int .i64 2,.func (.func 409) #[] #[.pointer (some ⟨b5,0,none⟩)],.func (.func 410) #[] #[.pointer (some ⟨b5,0,none⟩)],.int .i64 7,.int .i64 2,.func (.func 409) #[] #[.pointer (some ⟨b6,0,none⟩)],.func (.func 410) #[] #[.pointer (some ⟨b6,0,none⟩)],.int .i64 8,.int .i64 2,.func (.func 409) #[] #[.pointer (some ⟨b7,0,none⟩)],.func (.func 410) #[] #[.pointer (some ⟨b7,0,none⟩)]] 527);have e7:=ai.refl [] w8;have e6:=gU.out.trans e7;have e5:=bI.out.trans e6;have e4:=aB.out.trans e5;have e3:=hO4.out.trans e4;have e2:=hO3.out.trans e3;have e1:=hO2.out.trans e2;have e0:=aH.out.trans e1;have s0:=gV.out.size;have t0:=hb0.out;have s1:=aH.out.size;have t1:=hb1.out;have s2:=hO2.out.size;have t2:=hb2.out;have s3:=hO3.out.size;have t3:=hb3.out;have s4:=hO4.out.size;have t4:=hb4.out;have s5:=aB.out.size;have t5:=hb5.out;have s6:=bI.out.size;have t6:=hb6.out;have s7:=gU.out.size;have t7:=Ug.out;have s0:w.heap.size<=w1.heap.size:=gV.out.size;have t0:w.heap.size<=b0:=hb0.out;refine⟨_,rfl,⟨⟨b0,⟨cell_of_row _ _ 0 _ _ _ r,cell_of_row _ _ 1 _ _ _ r,cell_of_row _ _ 2 _ _ _ r,cell_of_row _ _ 3 _ _ _ r⟩,((e0.alloc _).cell (block_lt_of_cell hc0.out) (by simp)).trans hc0.out,by omega⟩,⟨b1,⟨cell_of_row _ _ 4 _ _ _ r,cell_of_row _ _ 5 _ _ _ r,cell_of_row _ _ 6 _ _ _ r,cell_of_row _ _ 7 _ _ _ r⟩,((e1.alloc _).cell (block_lt_of_cell hc1.out) (by simp)).trans hc1.out,by omega⟩,⟨b2,⟨cell_of_row _ _ 8 _ _ _ r,cell_of_row _ _ 9 _ _ _ r,cell_of_row _ _ 10 _ _ _ r,cell_of_row _ _ 11 _ _ _ r⟩,((e2.alloc _).cell (block_lt_of_cell hc2.out) (by simp)).trans hc2.out,by omega⟩,⟨b3,⟨cell_of_row _ _ 12 _ _ _ r,cell_of_row _ _ 13 _ _ _ r,cell_of_row _ _ 14 _ _ _ r,cell_of_row _ _ 15 _ _ _ r⟩,((e3.alloc _).cell (block_lt_of_cell hc3.out) (by simp)).trans hc3.out,by omega⟩,⟨b4,⟨cell_of_row _ _ 16 _ _ _ r,cell_of_row _ _ 17 _ _ _ r,cell_of_row _ _ 18 _ _ _ r,cell_of_row _ _ 19 _ _ _ r⟩,((e4.alloc _).cell (block_lt_of_cell hc4.out) (by simp)).trans hc4.out,by omega⟩,⟨b5,⟨cell_of_row _ _ 20 _ _ _ r,cell_of_row _ _ 21 _ _ _ r,cell_of_row _ _ 22 _ _ _ r,cell_of_row _ _ 23 _ _ _ r⟩,((e5.alloc _).cell (block_lt_of_cell hc5.out) (by simp)).trans hc5.out,by omega⟩,⟨b6,⟨cell_of_row _ _ 24 _ _ _ r,cell_of_row _ _ 25 _ _ _ r,cell_of_row _ _ 26 _ _ _ r,cell_of_row _ _ 27 _ _ _ r⟩,((e6.alloc _).cell (block_lt_of_cell hc6.out) (by simp)).trans hc6.out,by omega⟩,⟨b7,⟨cell_of_row _ _ 28 _ _ _ r,cell_of_row _ _ 29 _ _ _ r,cell_of_row _ _ 30 _ _ _ r,cell_of_row _ _ 31 _ _ _ r⟩,((e7.alloc _).cell (block_lt_of_cell hc7.out) (by simp)).trans hc7.out,by omega⟩⟩,by omega,by omega,(((ai.refl [] w).drew.trans gV.out).trans e0).alloc _⟩
def BM(x:ByteArray):List Value:=[.string x]
def KA(x:Int):List Value:=[.int .u32 x]
theorem OP:(Tryz.prog.info? 9).map (fun i=>(i.zero,i.size,i.bytes))=some (some (.string ⟨#[]⟩),1,16):=by kernel_rfl
theorem Sc:(Tryz.prog.info? 101).map (fun i=>(i.zero,i.size,i.bytes))=some (some (.int .u32 0),1,4):=by kernel_rfl
theorem Ba:je Tryz.prog 26 9 BM 1 16 where
 ut:=Tryz.underlying26
 info:=by obtain⟨i,h1,h2,h3,h4⟩:=info_parts OP;exact⟨i,_,h1,h2,h3,h4,rfl⟩
 pos:=by omega
 len:=fun _=>rfl
 one x u hu:=by simp only[BM,List.mem_cons,List.not_mem_nil,or_false]at hu;subst hu;rfl
theorem Sd:je Tryz.prog 241 101 KA 1 4 where
 ut:=Tryz.underlying241
 info:=by obtain⟨i,h1,h2,h3,h4⟩:=info_parts Sc;exact⟨i,_,h1,h2,h3,h4,rfl⟩
 pos:=by omega
 len:=fun _=>rfl
 one x u hu:=by simp only[KA,List.mem_cons,List.not_mem_nil,or_false]at hu;subst hu;rfl
def Dm(w:World):World:={w with heap:=#[]}
theorem jy(w:World):ai [] (Dm w) w:=⟨rfl,rfl,rfl,Nat.zero_le _,fun k hk=>absurd hk (by simp[Dm])⟩
theorem Sl.bare{α:Type}{enc:α->List Value}{k base:Nat}{T:TypeId}{w:World}{v:Value}{l:List α}(h:Sl T enc k base w v l):Sl T enc k (Dm w).heap.size w v l:=h.mono (Nat.zero_le _)
theorem Sl.up{α:Type}{enc:α->List Value}{k base b0:Nat}{T:TypeId}{w:World}{v:Value}{l:List α}(h:Sl T enc k b0 w v l)(hb: ∀g,v.ownBlock=some g->base<=g):Sl T enc k base w v l:=by
 obtain⟨h1,h2⟩:=h;refine⟨h1,?_⟩;rcases h2 with h2|⟨g,cap,cur,he,hg,h3⟩
 ·exact .inl h2
 ·exact .inr ⟨g,cap,cur,he,hb g (by rw[he];rfl),h3⟩
structure OQ (W0 w:World) (db:Nat) (cv tv:Value) (L:List ByteArray) (T:List Int):Prop where
 own:ai [db] W0 w
 row:w.heap[db]?=some (.cells #[cv,tv,.slice none 0 0] 244 (0,0))
 lt:db<W0.heap.size
 c:Sl 9 BM 1 W0.heap.size w cv L
 t:Sl 101 KA 1 W0.heap.size w tv T
 ap: ∀g,cv.ownBlock=some g->tv.ownBlock≠some g
section
variable {W0 w w' w1 : World} {db : Nat} {cv tv v' : Value} {L : List ByteArray} {T : List Int}
theorem OQ.nil'(h:OQ W0 w db cv tv L T)(ho:ai [] w w'):OQ W0 w' db cv tv L T:=
 ⟨h.own.trans ho.nil,ho.heap h.row (by simp),h.lt,h.c.nil' ho,h.t.nil' ho,h.ap⟩
theorem OQ.addC(h:OQ W0 w db cv tv L T){L':List ByteArray}(h1:Sl 9 BM 1 W0.heap.size w1 v' L')(h2:ai cv.ownBlock.toList w w1)(h3: ∀g,v'.ownBlock=some g->cv.ownBlock=some g\/w.heap.size<=g):
  (w1.cell? ⟨db,0,none⟩=some cv/\w1.frozen? ⟨db,0,none⟩=false)/\OQ W0 (w1.setCell ⟨db,0,none⟩ v') db v' tv L' T:=by
 have hd:db∉cv.ownBlock.toList:=fun hx=>by
  have:=(h.c.block (Option.mem_toList.1 hx)).1;have:=h.lt;omega
 have hb1:=h2.heap h.row hd;have hO2:ai [db] w1 (w1.setCell ⟨db,0,none⟩ v'):=(ai.refl _ _).setCell (.inl (by simp)) _;have hwl:=aj h.row;have hnd: ∀g,v'.ownBlock=some g->g≠db:=fun g hg e=>by
  have:=(h1.block hg).1;have:=h.lt;omega
 have htd: ∀g,tv.ownBlock=some g->g≠db:=fun g hg e=>by
  have:=(h.t.block hg).1;have:=h.lt;omega
 refine⟨⟨cell_of_row _ _ 0 _ _ _ hb1,frozen_of_row _ db 0 _ _ hb1⟩,(h.own.trans' h2 (fun x hx=>.inr (h.c.block (Option.mem_toList.1 hx)).1)).trans hO2,?_,h.lt,h1.own hO2 (fun b hb=>by simpa using hnd b hb),(h.t.own h2 (fun b hb hx=>h.ap b (Option.mem_toList.1 hx) hb)).own hO2 (fun b hb=>by simpa using htd b hb),fun g hg ht=>?_⟩
 ·have:=heap_setCell_same _ db 0 _ _ v' hb1
  simpa using this
 ·rcases h3 g hg with h4|h4
  ·exact h.ap g h4 ht
  ·have:=(h.t.block ht).2;omega
theorem OQ.addT(h:OQ W0 w db cv tv L T){T':List Int}(h1:Sl 101 KA 1 W0.heap.size w1 v' T')(h2:ai tv.ownBlock.toList w w1)(h3: ∀g,v'.ownBlock=some g->tv.ownBlock=some g\/w.heap.size<=g):
  (w1.cell? ⟨db,1,none⟩=some tv/\w1.frozen? ⟨db,1,none⟩=false)/\OQ W0 (w1.setCell ⟨db,1,none⟩ v') db cv v' L T':=by
 have hd:db∉tv.ownBlock.toList:=fun hx=>by
  have:=(h.t.block (Option.mem_toList.1 hx)).1;have:=h.lt;omega
 have hb1:=h2.heap h.row hd;have hO2:ai [db] w1 (w1.setCell ⟨db,1,none⟩ v'):=(ai.refl _ _).setCell (.inl (by simp)) _;have hwl:=aj h.row;have hnd: ∀g,v'.ownBlock=some g->g≠db:=fun g hg e=>by
  have:=(h1.block hg).1;have:=h.lt;omega
 have hcd: ∀g,cv.ownBlock=some g->g≠db:=fun g hg e=>by
  have:=(h.c.block hg).1;have:=h.lt;omega
 refine⟨⟨cell_of_row _ _ 1 _ _ _ hb1,frozen_of_row _ db 1 _ _ hb1⟩,(h.own.trans' h2 (fun x hx=>.inr (h.t.block (Option.mem_toList.1 hx)).1)).trans hO2,?_,h.lt,(h.c.own h2 (fun b hb hx=>h.ap b hb (Option.mem_toList.1 hx))).own hO2 (fun b hb=>by simpa using hcd b hb),h1.own hO2 (fun b hb=>by simpa using hnd b hb),fun g hg ht=>?_⟩
 ·have:=heap_setCell_same _ db 1 _ _ v' hb1
  simpa using this
 ·rcases h3 g ht with h4|h4
  ·exact h.ap g hg h4
  ·have:=(h.c.block hg).2;omega
end
structure Sh where
 a:Option Addr
 n:Nat
 c:Nat
def Yn(x:Sh):List Value:=[.slice x.a x.n x.c]
theorem VP:(Tryz.prog.info? 303).map (fun i=>(i.zero,i.size,i.bytes))=some (some (.slice none 0 0),1,24):=by kernel_rfl
theorem VQ:je Tryz.prog 242 303 Yn 1 24 where
 ut:=Tryz.underlying242
 info:=by obtain⟨i,h1,h2,h3,h4⟩:=info_parts VP;exact⟨i,_,h1,h2,h3,h4,rfl⟩
 pos:=by omega
 len:=fun _=>rfl
 one x u hu:=by simp only[Yn,List.mem_cons,List.not_mem_nil,or_false]at hu;subst hu;rfl
structure U1 (W0 w:World) (db:Nat) (cv tv rv:Value) (L:List Sh):Prop where
 own:ai [db] W0 w
 row:w.heap[db]?=some (.cells #[cv,tv,rv] 244 (0,0))
 lt:db<W0.heap.size
 r:Sl 303 Yn 1 W0.heap.size w rv L
section
variable {W0 w w' w1 : World} {db : Nat} {cv tv rv v' : Value} {L L' : List Sh}
theorem U1.nil'(h:U1 W0 w db cv tv rv L)(ho:ai [] w w'):U1 W0 w' db cv tv rv L:=⟨h.own.trans ho.nil,ho.heap h.row (by simp),h.lt,h.r.nil' ho⟩
theorem U1.addR(h:U1 W0 w db cv tv rv L)(h1:Sl 303 Yn 1 W0.heap.size w1 v' L')(h2:ai rv.ownBlock.toList w w1):
  (w1.cell? ⟨db,2,none⟩=some rv/\w1.frozen? ⟨db,2,none⟩=false)/\U1 W0 (w1.setCell ⟨db,2,none⟩ v') db cv tv v' L':=by
 have hd:db∉rv.ownBlock.toList:=fun hx=>by
  have:=(h.r.block (Option.mem_toList.1 hx)).1;have:=h.lt;omega
 have hb1:=h2.heap h.row hd;have hO2:ai [db] w1 (w1.setCell ⟨db,2,none⟩ v'):=(ai.refl _ _).setCell (.inl (by simp)) _;have hnd: ∀g,v'.ownBlock=some g->g≠db:=fun g hg e=>by
  have:=(h1.block hg).1;have:=h.lt;omega
 refine⟨⟨cell_of_row _ _ 2 _ _ _ hb1,frozen_of_row _ db 2 _ _ hb1⟩,(h.own.trans' h2 (fun x hx=>.inr (h.r.block (Option.mem_toList.1 hx)).1)).trans hO2,?_,h.lt,h1.own hO2 (fun b hb=>by simpa using hnd b hb)⟩;have:=heap_setCell_same _ db 2 _ _ v' hb1;simpa using this
end
end Go.Proofs.YtedcakchekaemaaGreatDoor
