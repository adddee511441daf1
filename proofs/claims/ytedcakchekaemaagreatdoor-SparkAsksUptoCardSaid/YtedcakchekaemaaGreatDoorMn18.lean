import Derived.Test.YtedcakchekaemaaGreatDoorMn16
import Derived.Test.YtedcakchekaemaaGreatDoorMn15
set_option maxRecDepth 100000
set_option maxHeartbeats 16000000
set_option linter.all false
namespace Go.Proofs.YtedcakchekaemaaGreatDoor
open Go.RowKit
def mkB(l:List UInt8):ByteArray:=⟨l.toArray⟩
theorem sQ(x:ByteArray):mkB x.toList=x:=by unfold mkB;rw[Lib.toList_data]
def wP:List UInt8->List (List UInt8)
 | []=>[[]]
 |c::r=>if c=47 then[]::wP r else match wP r with|x::t=>(c::x)::t| []=>[[c]]
theorem JB(c:UInt8)(r:List UInt8):wP (c::r)=if c=47 then[]::wP r else match wP r with|x::t=>(c::x)::t| []=>[[c]]:=rfl
theorem BU: ∀{a:List UInt8},(∀c∈a,c≠47)->wP a=[a]
 | [],_=>rfl
 |c::r,h=>by
  unfold wP;rw[if_neg (h c (List.mem_cons_self ..)),BU (fun x hx=>h x (List.mem_cons_of_mem _ hx))]
theorem BV: ∀{a:List UInt8} (b:List UInt8),(∀c∈a,c≠47)->wP (a++47::b)=a::wP b
 | [],b,_=>by simp[wP]
 |c::r,b,h=>by
  rw[List.cons_append,JB];rw[if_neg (h c (List.mem_cons_self ..)),BV b (fun x hx=>h x (List.mem_cons_of_mem _ hx))]
def dQ(s:ByteArray):List ByteArray:=(wP s.toList).map mkB
theorem Nh(s:ByteArray)(i:Nat):(s.extract 0 i).toList=s.toList.take i:=by
 rw[Lib.Pa.extract_upto,Lib.toList_data,Lib.toList_data]
theorem Ni(s:ByteArray)(i:Nat):(s.extract i s.size).toList=s.toList.drop i:=by
 rw[Lib.Pa.extract_from,Lib.toList_data,Lib.toList_data]
theorem jI(s:ByteArray):s.toList.length=s.size:=by rw[Lib.toList_data];rfl
theorem ou(s:ByteArray)(i:Nat)(h:i<s.size):s.toList[i]?=some (s.get! i):=by
 rw[Lib.toList_data];have h2:i<s.data.size:=h;show s.data.toList[i]?=some s.data[i]!;rw[Array.getElem?_toList];rw[getElem!_pos s.data i h2,Array.getElem?_eq_getElem h2]
def rz(s:ByteArray)(b:Nat):Prop:= ∀j,j<b->j<s.size->s.get! j≠47
theorem wQ{s:ByteArray}{i:Nat}(h:rz s i): ∀c∈s.toList.take i,c≠47:=by
 intro c hc;obtain⟨j,hj,rfl⟩:=List.getElem_of_mem hc;have hl:=List.length_take_le i s.toList;have hj1:j<i:=by simp at hj;omega
 have hj2:j<s.size:=by simp[jI]at hj;omega
 have:=h j hj1 hj2;have e:=ou s j hj2;rw[List.getElem_take];intro e2;rw[List.getElem?_eq_getElem (by rw[jI];exact hj2)]at e;rw[Option.some.inj e]at e2;exact this e2
theorem wR{s:ByteArray}{i:Nat}(h:rz s i)(hi:i<s.size)(hc:s.get! i=47):dQ s=s.extract 0 i::dQ (s.extract (i+1) s.size):=by
 unfold dQ;have e:s.toList=s.toList.take i++47::s.toList.drop (i+1):=by
  have h1:=List.take_append_drop i s.toList;rw[List.drop_eq_getElem_cons (by rw[jI];exact hi)]at h1;have h2:=ou s i hi;rw[List.getElem?_eq_getElem (by rw[jI];exact hi),hc]at h2;rw[Option.some.inj h2]at h1;exact h1.symm
 rw[e,BV _ (wQ h),List.map_cons,Ni]
 congr 1
 rw[<-Nh,sQ]
theorem wT{s:ByteArray}(h:rz s s.size):dQ s=[s]:=by
 unfold dQ;have:=wQ h;rw[List.take_of_length_le (by rw[jI];omega)]at this;rw[BU this,List.map_cons,sQ];rfl
theorem Io{s:ByteArray}{i:Nat}(hi:i<s.size):1<=(Utf8.decode s i).2/\i+(Utf8.decode s i).2<=s.size/\
  (((Utf8.decode s i).1=47/\s.get! i=47)\/((Utf8.decode s i).1≠47/\ ∀j,i<=j->j<i+(Utf8.decode s i).2->s.get! j≠47)):=by
 have hsh:=Lib.decodeN_shape (s.size-i) (s.get! i).toNat (s.get! (i+1)).toNat (s.get! (i+2)).toNat (s.get! (i+3)).toNat;rw[<-Lib.decode_at]at hsh;have hn: ∀k,(s.get! k).toNat≠47->s.get! k≠47:=fun k h e=>h (by rw[e];rfl)
 by_cases hb:(s.get! i).toNat<128
 ·have e:Utf8.decode s i=((s.get! i).toNat,1):=by
   have h1:=decode_ascii s i hi (by
    have:s[i]=s.get! i:=by simp[ByteArray.get!,getElem!_pos,hi];rfl
    rw[this];exact hb)
   rw[h1];have:s[i]=s.get! i:=by simp[ByteArray.get!,getElem!_pos,hi];rfl
   rw[this]
  rw[e];refine⟨Nat.le_refl _,hi,?_⟩;by_cases h47:(s.get! i).toNat=47
  ·exact .inl ⟨h47,UInt8.toNat_inj.1 h47⟩
  ·refine .inr ⟨h47,fun j h1 h2=>?_⟩
   obtain rfl:j=i:=by simp at h2;omega
   exact hn _ h47
 ·rcases hsh with⟨h,_⟩|⟨h0,h1,h2,h3,h4⟩|⟨h0,h1,h2,h3,h4,_,h5⟩|⟨h0,h1,h2,h3,h4,h5,_,h6⟩|h
  ·omega
  ·rw[h4]
   refine⟨by simp,by simp;omega,.inr ⟨by simp;omega,fun j a b=>?_⟩⟩;have:j=i\/j=i+1:=by simp at b;omega
   rcases this with rfl|rfl<;>exact hn _ (by omega)
  ·rw[h5]
   refine⟨by simp,by simp;omega,.inr ⟨by simp;omega,fun j a b=>?_⟩⟩;have:j=i\/j=i+1\/j=i+2:=by simp at b;omega
   rcases this with rfl|rfl|rfl<;>exact hn _ (by omega)
  ·rw[h6]
   refine⟨by simp,by simp;omega,.inr ⟨by simp;omega,fun j a b=>?_⟩⟩;have:j=i\/j=i+1\/j=i+2\/j=i+3:=by simp at b;omega
   rcases this with rfl|rfl|rfl|rfl<;>exact hn _ (by omega)
  ·rw[h]
   refine⟨Nat.le_refl _,by simp;omega,.inr ⟨by simp,fun j a b=>?_⟩⟩;obtain rfl:j=i:=by simp at b;omega
   exact hn _ (by omega)
theorem rz.step{s:ByteArray}{i n:Nat}(h:rz s i)(hn: ∀j,i<=j->j<i+n->s.get! j≠47):rz s (i+n):=by
 intro j h1 h2;by_cases hj:j<i
 ·exact h j hj h2
 ·exact hn j (by omega) h1
def iD(d:DW):List Nat:=d.blk::bJ d.a
def EW.others(L:EW)(n i:Nat):List Nat:=n::L.rb::L.tb::L.tm::(bJ L.ia++(L.dv.ownBlock.toList++(L.ds.eraseIdx i).flatMap iD))
theorem nP(L:EW)(n i:Nat){d:DW}(h:L.ds[i]?=some d):(L.feet n).Perm (d.blk::(bJ d.a++L.others n i)):=by
 obtain⟨hl,he⟩:=List.getElem?_eq_some_iff.1 h;have hp:(L.ds.flatMap iD).Perm ((d::L.ds.eraseIdx i).flatMap iD):=by
  rw[<-he];exact((sD L.ds i hl).symm).flatMap_right _
 refine List.perm_iff_count.2 fun x=>?_
 have hc:=hp.count_eq x;rw[List.flatMap_cons]at hc;have hd:iD d=d.blk::bJ d.a:=rfl;rw[hd]at hc;have hf:(L.ds.flatMap fun d=>d.blk::bJ d.a)=L.ds.flatMap iD:=rfl;unfold EW.feet EW.others;rw[hf];simp only[List.count_cons,List.count_append]at hc⊢;omega
theorem Gp{A A' R:List Nat}{B:Nat}(h:(A++R).Nodup)(hlt: ∀x∈R,x<B)(hA:A'.Nodup)(hge: ∀x∈A',B<=x):(A'++R).Nodup:=
 List.nodup_append.2 ⟨hA,(List.nodup_append.1 h).2.1,fun x hx y hy e=>by have:=hge x hx;have:=hlt y hy;omega⟩
theorem DK(a:Option Addr):(bJ a).Nodup:=by unfold bJ;cases a<;>simp
theorem uY{a:Option Addr}{b:Nat}(h:b∈bJ a):a.map (·.block)=some b:=by unfold bJ at h;exact Option.mem_toList.1 h
theorem au.setTab{w w':World}{n:Nat}{g nm:ByteArray}{L:EW}{s:EN}(h:au w n g nm L s){al:dN}(ho:ai [L.tb,L.tm] w w')(hT:sJ w' L.tb L.tm al)(hl:al.length<=64):
  au w' n g nm L {s with al:=al}:=by
 have hA:=h.apart;unfold EW.feet at hA;simp only[List.nodup_cons,List.mem_cons,List.mem_append,not_or]at hA;obtain⟨⟨a1,a2,a3,a4,a5,a6⟩,⟨b2,b3,b4,b5,b6⟩,⟨c3,c4,c5,c6⟩,⟨d4,d5,d6⟩,_⟩:=hA;have hno: ∀x,x≠L.tb->x≠L.tm->x∉[L.tb,L.tm]:=fun x h1 h2=>by simp[h1,h2]
 refine⟨ho.heap h.row (hno _ a2 a3),h.rrow.own ho (hno _ b2 b3),hT,h.its.own' ho (fun b hb=>hno b (fun e=>c4 (e▸bB hb)) (fun e=>d4 (e▸bB hb))),h.dvs.own ho (fun b hb=>hno b (fun e=>c5 (e▸by simp[hb])) (fun e=>d5 (e▸by simp[hb]))),h.len,fun i d x hd hx=>?_,h.apart,⟨h.few.1,hl,h.few.2.2⟩⟩;have hm:d∈L.ds:=List.mem_of_getElem? hd;have k:=h.devs i d x hd hx;have hin: ∀b,b∈iD d->b≠L.tb/\b≠L.tm:=fun b hb=>⟨fun e=>c6 (List.mem_flatMap.2 ⟨d,hm,e▸hb⟩),fun e=>d6 (List.mem_flatMap.2 ⟨d,hm,e▸hb⟩)⟩
 exact k.own ho (hno _ (hin _ (List.mem_cons_self ..)).1 (hin _ (List.mem_cons_self ..)).2) (fun b hb=>hno b (hin b (List.mem_cons_of_mem _ (bB hb))).1 (hin b (List.mem_cons_of_mem _ (bB hb))).2)
theorem KX{ds:List DW}{i j:Nat}{d:DW}(h:ds[j]?=some d)(hij:i≠j):d∈ds.eraseIdx i:=by
 rw[List.mem_eraseIdx_iff_getElem?];exact⟨j,Ne.symm hij,h⟩
theorem KY{ds:List DW}{i:Nat}{d d':DW}(h:ds[i]?=some d)(hb:d'.blk=d.blk):aC gZ (ds.set i d')=aC gZ ds:=by
 rw[oH,oH,List.map_set];obtain⟨hl,he⟩:=List.getElem?_eq_some_iff.1 h;rw[hb,<-he];have:(ds.map fun d=>Value.pointer (some ⟨d.blk,0,none⟩))[i]'(by simpa using hl)=.pointer (some ⟨ds[i].blk,0,none⟩):=by simp
 rw[<-this];exact List.set_getElem_self _
theorem au.setDev{w w':World}{n:Nat}{g nm:ByteArray}{L:EW}{s:EN}(h:au w n g nm L s){i:Nat}{d d':DW}{x':bQ}(hi:L.ds[i]?=some d)(hP:eX w' d' x')(hb:d'.blk=d.blk)(ho:ai [d.blk] w w')
  (hf: ∀b,d'.a.map (·.block)=some b->d.a.map (·.block)=some b\/w.heap.size<=b):
  au w' n g nm {L with ds:=L.ds.set i d'} {s with dev:=s.dev.set i x'}/\(∀y∈({L with ds:=L.ds.set i d'}:EW).feet n,y∈L.feet n\/w.heap.size<=y):=by
 have hp:=nP L n i hi;obtain⟨hl,he⟩:=List.getElem?_eq_some_iff.1 hi;have hi':({L with ds:=L.ds.set i d'}:EW).ds[i]?=some d':=by simp[hl]
 have hp':=nP {L with ds:=L.ds.set i d'} n i hi';have hoe:({L with ds:=L.ds.set i d'}:EW).others n i=L.others n i:=by unfold EW.others;simp only[List.eraseIdx_set_eq]
 rw[hoe,hb]at hp';have hN:=hp.nodup_iff.1 h.apart;obtain⟨hd1,hd2⟩:=List.nodup_cons.1 hN;have hno: ∀y∈L.others n i,y∉[d.blk]:=fun y hy=>by simp;rintro rfl;exact hd1 (List.mem_append_right _ hy)
 have hlt: ∀y∈d.blk::L.others n i,y<w.heap.size:=fun y hy=>h.lt y (hp.symm.subset (by rcases List.mem_cons.1 hy with h1|h1;exact h1▸List.mem_cons_self ..;exact List.mem_cons_of_mem _ (List.mem_append_right _ h1)))
 have hN':(d.blk::(bJ d'.a++L.others n i)).Nodup:=by
  by_cases hsame: ∃b,d'.a.map (·.block)=some b/\d.a.map (·.block)=some b
  ·obtain⟨b,h1,h2⟩:=hsame
   have:bJ d'.a=bJ d.a:=by unfold bJ;rw[h1,h2]
   rw[this];exact hN
  ·have hge: ∀y∈bJ d'.a,w.heap.size<=y:=fun y hy=>by
    rcases hf y (uY hy)with h1|h1
    ·exact absurd ⟨y,uY hy,h1⟩ hsame
    ·exact h1
   have hR:(d.blk::L.others n i).Nodup:=hN.sublist ((List.sublist_append_right _ _).cons_cons _);have:=Gp (A:=[]) (A':=bJ d'.a) (R:=d.blk::L.others n i) hR hlt (DK _) hge;exact(List.perm_middle (l₁:=bJ d'.a) (l₂:=L.others n i) (a:=d.blk)).nodup_iff.1 this
 have hsub: ∀y∈({L with ds:=L.ds.set i d'}:EW).feet n,y∈L.feet n\/w.heap.size<=y:=fun y hy=>by
  rcases List.mem_cons.1 (hp'.subset hy)with h1|h1
  ·exact .inl (hp.symm.subset (h1▸List.mem_cons_self ..))
  ·rcases List.mem_append.1 h1 with h2|h2
   ·rcases hf y (uY h2)with h3|h3
    ·exact .inl (hp.symm.subset (List.mem_cons_of_mem _ (List.mem_append_left _ (bB h3))))
    ·exact .inr h3
   ·exact .inl (hp.symm.subset (List.mem_cons_of_mem _ (List.mem_append_right _ h2)))
 have mo: ∀y,y=n\/y=L.rb\/y=L.tb\/y=L.tm\/y∈bJ L.ia\/y∈L.dv.ownBlock.toList->y∉[d.blk]:=fun y hy=>hno y (by
  unfold EW.others;simp only[List.mem_cons,List.mem_append];rcases hy with h1|h1|h1|h1|h1|h1<;>simp[h1])
 have hdv:Sl 164 gZ 1 0 w' L.dv (L.ds.set i d'):=by
  have:=h.dvs.own ho (fun b hb=>mo b (by simp[hb]));unfold Sl at this⊢;rw[KY hi hb,List.length_set];exact this
 refine⟨⟨ho.heap h.row (mo n (by simp)),h.rrow.own ho (mo _ (by simp)),h.tab.own ho (mo _ (by simp)) (mo _ (by simp)),h.its.own' ho (fun b hb=>mo b (by simp[bB hb])),hdv,by simp[h.len],fun j e x he hx=>?_,hp'.nodup_iff.2 hN',⟨h.few.1,h.few.2.1,by simpa using h.few.2.2⟩⟩,hsub⟩;by_cases hij:i=j
 ·subst hij
  have hil:i<s.dev.length:=by rw[h.len];exact hl
  have q1:(L.ds.set i d')[i]?=some d':=hi';have q2:(s.dev.set i x')[i]?=some x':=by simp[hil]
  rw[show({L with ds:=L.ds.set i d'}:EW).ds[i]?=(L.ds.set i d')[i]? from rfl,q1]at he;rw[show({s with dev:=s.dev.set i x'}:EN).dev[i]?=(s.dev.set i x')[i]? from rfl,q2]at hx;cases he;cases hx;exact hP
 ·have q1:L.ds[j]?=some e:=by
   have:(L.ds.set i d')[j]?=some e:=he;rwa[List.getElem?_set_ne hij]at this
  have q2:s.dev[j]?=some x:=by
   have:(s.dev.set i x')[j]?=some x:=hx;rwa[List.getElem?_set_ne hij]at this
  have hm:=KX q1 hij;have hin: ∀b,b∈iD e->b∉[d.blk]:=fun b hb=>hno b (by
   unfold EW.others;simp only[List.mem_cons,List.mem_append,List.mem_flatMap];exact .inr (.inr (.inr (.inr (.inr (.inr ⟨e,hm,hb⟩))))))
  exact(h.devs j e x q1 q2).own ho (hin _ (List.mem_cons_self ..)) (fun b hb=>hin b (List.mem_cons_of_mem _ (bB hb)))
end Go.Proofs.YtedcakchekaemaaGreatDoor
namespace Go.Proofs.YtedcakchekaemaaGreatDoor
open Go.RowKit Go.Lib Go.Shelf
def l9(x:ByteArray):List Value:=[.string x]
theorem kG(x:ByteArray):(l9 x).length=1:=rfl
theorem UU:(Tryz.prog.info? 9).map (fun i=>(i.zero,i.size,i.bytes))=some (some (.string ⟨#[]⟩),1,16):=by kernel_rfl
theorem Ip:je Tryz.prog 26 9 l9 1 16 where
 ut:=Tryz.underlying26
 info:=by obtain⟨i,h1,h2,h3,h4⟩:=info_parts UU;exact⟨i,_,h1,h2,h3,h4,rfl⟩
 pos:=by omega
 len:=kG
 one x u hu:=by simp[l9]at hu;subst hu;rfl
theorem Yb(w:World)(C:Nat)(h:C<=1048576): ∃w',(Instr.makeSlice 26 (.int .i64 0) (.int .i64 ((C:Int)+1))).run Tryz.prog w=.ok (.slice (some ⟨w.heap.size,0,none⟩) 0 (C+1)) w'/\Sl 9 l9 1 w.heap.size w' (.slice (some ⟨w.heap.size,0,none⟩) 0 (C+1)) []/\ai [] w w':=by
 obtain⟨i,h1,h2,h3,h4⟩:=info_parts UU;obtain⟨w',hr,hO,hg⟩:=run_make_own (P:=Tryz.prog) w w.heap.size 26 9 i _ 1 Tryz.underlying26 h1 h2 h3 .i64 .i64 (C+1) (by rw[h4];omega) (by unfold maxLen;omega) (Nat.le_refl _);exact⟨w',by simpa using hr,hO,⟨hg.os,hg.tape,hg.output,hg.size,fun k hk _=>hg.block k hk (by simp)⟩⟩
theorem Vt(l:List UInt8)(b:UInt8):Lib.countByte l b<=l.length:=by
 first|exact List.count_le_length|(unfold Lib.countByte;exact List.length_filter_le _ _)|(unfold Lib.countByte;exact List.countP_le_length)
def JC(w:World)(s:ByteArray)(e:Ending)(w':World):Prop:=
 ∃v,e=.returned v/\Sl 9 l9 1 w.heap.size w' v (dQ s)/\ai [] w w'
def Vu(s:ByteArray)(w:World)(a':Act)(w':World):Prop:=
 ∃(r:ByteArray) (T:List ByteArray) (va u4 u5 u6 u7 u8 u9 Mr Ms Mt Mv Mw Vg u16 Vh Vi Vj u20 u21 u22 u23 u24 u25 u26 u27 u28 u29 u30 u31:Value),a'={tmps:=#[.string r,undef,.slice none 0 0,va,u4,u5,u6,u7,u8,u9,Mr,Ms,Mt,Mv,Mw,Vg,u16,Vh,Vi,Vj,u20,u21,u22,u23,u24,u25,u26,u27,u28,u29,u30,u31],defers:=[]}/\Sl 9 l9 1 w.heap.size w' va T/\ai [] w w'/\T.length+r.size<=s.size/\Hid (T++dQ r=dQ s)
def Rj(a:Act):Nat:=match a.tmps.getD 0 undef with| .string r=>r.size|_=>0
theorem JD(s:ByteArray)(w:World)(hs:s.size<=1048576):
  Calls Tryz.prog 51 #[.string s] w (JC w s):=by
 have cC:=Any.strings_Count_one Tryz.laysCount s 47 w;have hC:=Vt s.data.toList 47;have hsz:s.data.toList.length=s.size:=rfl;rw[hsz]at hC;generalize Lib.countByte s.data.toList 47=C at cC hC;obtain⟨w1,hmk,nZ,aH⟩:=Yb w C (by omega);have hc0:(0:Int)<=C:=by omega
 have hc1:(C:Int)<=1048576:=by omega
 replace cC:=af cC;clear hsz hC;go_enter Tryz.func51,Tryz.ntmps51
 go_wp2_with fail
 refine wp_scope_jumps 0 (Vu s w) (fun a' _=>Rj a') rfl ?_ ?_
 ·go_wp2_with(first|(go_at_call 86;refine cC.out.mono ?_;rintro e w2 ⟨rfl,hw2⟩;rw[hw2];clear hw2 w2))
  go_step3
  go_wp2_with fail
  obtain⟨wc,hwc⟩: ∃wc,wc=w1:=⟨_,rfl⟩;rw[<-hwc];have hO:ai [] w wc:=hwc▸aH;have hS:=hwc▸nZ;have hT:Hid ([]++dQ s=dQ s):=af rfl;have hsz:([]:List ByteArray).length+s.size<=s.size:=by simp
  change Hid _ at hwc;generalize([]:List ByteArray)=T at hS hT hsz;clear hmk nZ aH cC;generalize(Value.slice (some ⟨w.heap.size,0,none⟩) 0 (C+1))=va at hS⊢;go_loopg[0,3,12] (s.size+1) (fun g s0 s3 _ wr=> ∃i:Nat,s0=.string s/\s3=va/\wr=wc.iter s i/\g=s.size+1-i/\i<=s.size/\Aside (rz s i))
  case atStart=>exact⟨0,rfl,rfl,rfl,rfl,Nat.zero_le _,(fun j h=>by omega:rz s 0)⟩
  case round=>
   obtain⟨i,rfl,rfl,rfl,hg,hi,hA⟩:=hrel;replace hA:=hA.out;by_cases hlt:i<s.size
   ·have hnx: ∀ty,(Instr.next (.pointer (some ⟨wc.heap.size,0,none⟩)) true ty).run Tryz.prog (wc.iter s i)=_:=fun ty=>run_next_any wc s i ty hlt
    obtain⟨d1,d2,d3⟩:=Io hlt;generalize Utf8.decode s i=dd at*;obtain⟨rune,wid⟩:=dd;simp only at d1 d2 d3 hnx;rcases d3 with⟨d3,d4⟩|⟨d3,d4⟩
    ·have h47:((rune:Int)==47)=true:=by simp;omega
     have hlv:=wR hA hlt d4;have hsz2:(s.extract (i+1) s.size).size=s.size-(i+1):=by simp[ByteArray.size_extract]
     have lC:(T++[s.extract 0 i])++dQ (s.extract (i+1) s.size)=dQ s:=by rw[<-hT.out,hlv];simp
     obtain⟨a1,c1,hva⟩:=hS.sl;subst hva;have hOb:ai [] w (((wc.iter s (i+wid)).drew).alloc (.cells #[.string (s.extract 0 i)] 9)):=((hO.alloc (.stringIter s (i+wid))).drew).alloc _;have hSb:Sl 9 l9 1 w.heap.size (((wc.iter s (i+wid)).drew).alloc (.cells #[.string (s.extract 0 i)] 9)) (.slice a1 T.length c1) T:=hS.nil' ((((ai.refl [] wc).alloc (.stringIter s (i+wid))).drew).alloc _);have hRb:=aA.new (enc:=l9) (T:=9) ((wc.iter s (i+wid)).drew) (s.extract 0 i) 1;have TU:(T++[s.extract 0 i]).length+(s.extract (i+1) s.size).size<=s.size:=by rw[hsz2];simp;omega
     have hB1:(T.length+[s.extract 0 i].length)*16<=140737488355328:=by simp only[List.length_singleton];omega
     have hB2:T.length+[s.extract 0 i].length<=maxLen:=by unfold maxLen;simp only[List.length_singleton];omega
     have hw2:(0:Int)<=(i:Int)+1:=by omega
     have hw3:(i:Int)+1<=s.size:=by omega
     have hw4:((i:Int)+1).toNat=i+1:=by omega
     have hw1:IntKind.i64.wrap ((i:Int)+1)=(i:Int)+1:=IntWalk.i64_in _ (by omega);change Hid _ at hB1 hB2 TU hsz2 lC hOb hg;clear hlv d3 d4 hA hO hS hT;go_wp2_with fail
     go_region_law((go_loud(refine oQ rfl (.tmp 18) (.tmp 22) (by rfl) Ip hOb.out (by rfl) hSb (by rfl) hRb hB1.out hB2.out ?_);intro Jl w5 hS5 aB _ _;obtain⟨a2,c2,Wy⟩:=hS5.sl;subst Wy;rw[List.length_append,List.length_singleton]at hS5;have F:=af (And.intro hS5 (And.intro aB (And.intro TU.out lC)));clear hS5 aB))
     all_goals
      go_wp2_with fail
      go_step3
      exact⟨rfl,⟨s.extract (i+1) s.size,T++[s.extract 0 i],.slice a2 (T.length+1) c2,_,_,_,_,_,_,_,_,_,_,_,_,_,_,_,_,_,_,_,_,_,_,_,_,_,_,_,_,rfl,F.out.1,F.out.2.1,F.out.2.2.1,F.out.2.2.2⟩⟩
    ·have h47:((rune:Int)==47)=false:=by simp;omega
     have hA2:=af (hA.step d4);change Hid _ at hg;clear d3 d4 hA;go_wp2_with fail
     go_roundg(s.size+1-(i+wid))
     case measure=>have:=hg.out;omega
     case rel=>exact⟨i+wid,rfl,rfl,rfl,rfl,d2,hA2.out⟩
   ·obtain rfl:i=s.size:=by omega
    have hnx: ∀ty,(Instr.next (.pointer (some ⟨wc.heap.size,0,none⟩)) true ty).run Tryz.prog (wc.iter s s.size)=_:=fun ty=>run_next_end wc s s.size ty hlt
    have hlv:=wT hA;have lC:T++[s]=dQ s:=by rw[<-hT.out,hlv]
    obtain⟨a1,c1,hva⟩:=hS.sl;subst hva;have hOb:ai [] w ((wc.iter s s.size).alloc (.cells #[.string s] 9)):=(hO.alloc (.stringIter s s.size)).alloc _;have hSb:Sl 9 l9 1 w.heap.size ((wc.iter s s.size).alloc (.cells #[.string s] 9)) (.slice a1 T.length c1) T:=hS.nil' (((ai.refl [] wc).alloc (.stringIter s s.size)).alloc _);have hRb:=aA.new (enc:=l9) (T:=9) (wc.iter s s.size) s 1;have Mx:T.length<=1048576:=by omega
    change Hid _ at lC hOb;clear hlv hg hA hO hS hT;go_wp2_with(at_builtin;refine iX rfl (.tmp 28) (.tmp 30) rfl Ip hOb.out rfl hSb rfl hRb (by simp only[List.length_singleton];omega) (by unfold maxLen;simp only[List.length_singleton];omega) ?_;intro Jl w5 hS5 aB _ _;rw[lC.out]at hS5;have F:=af (And.intro hS5 aB);clear hS5 aB)
    simp only[Exit.jump];go_ret
    exact⟨_,rfl,F.out⟩
 ·rintro a' wc ⟨r,T,va,u4,u5,u6,u7,u8,u9,Mr,Ms,Mt,Mv,Mw,Vg,u16,Vh,Vi,Vj,u20,u21,u22,u23,u24,u25,u26,u27,u28,u29,u30,u31,rfl,hS,hO,hsz,hT⟩
  clear hmk nZ aH cC;go_wp2_with fail
  go_loopg[0,3,12] (r.size+1) (fun g s0 s3 _ wr=> ∃i:Nat,s0=.string r/\s3=va/\wr=wc.iter r i/\g=r.size+1-i/\i<=r.size/\Aside (rz r i))
  case atStart=>exact⟨0,rfl,rfl,rfl,rfl,Nat.zero_le _,(fun j h=>by omega:rz r 0)⟩
  case round=>
   obtain⟨i,rfl,rfl,rfl,hg,hi,hA⟩:=hrel;replace hA:=hA.out;by_cases hlt:i<r.size
   ·have hnx: ∀ty,(Instr.next (.pointer (some ⟨wc.heap.size,0,none⟩)) true ty).run Tryz.prog (wc.iter r i)=_:=fun ty=>run_next_any wc r i ty hlt
    obtain⟨d1,d2,d3⟩:=Io hlt;generalize Utf8.decode r i=dd at*;obtain⟨rune,wid⟩:=dd;simp only at d1 d2 d3 hnx;rcases d3 with⟨d3,d4⟩|⟨d3,d4⟩
    ·have h47:((rune:Int)==47)=true:=by simp;omega
     have hlv:=wR hA hlt d4;have hsz2:(r.extract (i+1) r.size).size=r.size-(i+1):=by simp[ByteArray.size_extract]
     have lC:(T++[r.extract 0 i])++dQ (r.extract (i+1) r.size)=dQ s:=by rw[<-hT.out,hlv];simp
     obtain⟨a1,c1,hva⟩:=hS.sl;subst hva;have hOb:ai [] w (((wc.iter r (i+wid)).drew).alloc (.cells #[.string (r.extract 0 i)] 9)):=((hO.alloc (.stringIter r (i+wid))).drew).alloc _;have hSb:Sl 9 l9 1 w.heap.size (((wc.iter r (i+wid)).drew).alloc (.cells #[.string (r.extract 0 i)] 9)) (.slice a1 T.length c1) T:=hS.nil' ((((ai.refl [] wc).alloc (.stringIter r (i+wid))).drew).alloc _);have hRb:=aA.new (enc:=l9) (T:=9) ((wc.iter r (i+wid)).drew) (r.extract 0 i) 1;have TU:(T++[r.extract 0 i]).length+(r.extract (i+1) r.size).size<=s.size:=by rw[hsz2];simp;omega
     have hB1:(T.length+[r.extract 0 i].length)*16<=140737488355328:=by simp only[List.length_singleton];omega
     have hB2:T.length+[r.extract 0 i].length<=maxLen:=by unfold maxLen;simp only[List.length_singleton];omega
     have hw2:(0:Int)<=(i:Int)+1:=by omega
     have hw3:(i:Int)+1<=r.size:=by omega
     have hw4:((i:Int)+1).toNat=i+1:=by omega
     have hw1:IntKind.i64.wrap ((i:Int)+1)=(i:Int)+1:=IntWalk.i64_in _ (by omega);change Hid _ at hB1 hB2 TU hsz2 lC hOb hg;clear hlv d3 d4 hA hO hS hT;go_wp2_with fail
     go_region_law((go_loud(refine oQ rfl (.tmp 18) (.tmp 22) (by rfl) Ip hOb.out (by rfl) hSb (by rfl) hRb hB1.out hB2.out ?_);intro Jl w5 hS5 aB _ _;obtain⟨a2,c2,Wy⟩:=hS5.sl;subst Wy;rw[List.length_append,List.length_singleton]at hS5;have F:=af (And.intro hS5 (And.intro aB (And.intro TU.out lC)));clear hS5 aB))
     all_goals
      go_wp2_with fail
      go_step3
      refine⟨rfl,⟨r.extract (i+1) r.size,T++[r.extract 0 i],.slice a2 (T.length+1) c2,_,_,_,_,_,_,_,_,_,_,_,_,_,_,_,_,_,_,_,_,_,_,_,_,_,_,_,_,rfl,F.out.1,F.out.2.1,F.out.2.2.1,F.out.2.2.2⟩,?_⟩;show(r.extract (i+1) r.size).size<r.size;rw[hsz2.out];omega
    ·have h47:((rune:Int)==47)=false:=by simp;omega
     have hA2:=af (hA.step d4);change Hid _ at hg;clear d3 d4 hA;go_wp2_with fail
     go_roundg(r.size+1-(i+wid))
     case measure=>have:=hg.out;omega
     case rel=>exact⟨i+wid,rfl,rfl,rfl,rfl,d2,hA2.out⟩
   ·obtain rfl:i=r.size:=by omega
    have hnx: ∀ty,(Instr.next (.pointer (some ⟨wc.heap.size,0,none⟩)) true ty).run Tryz.prog (wc.iter r r.size)=_:=fun ty=>run_next_end wc r r.size ty hlt
    have hlv:=wT hA;have lC:T++[r]=dQ s:=by rw[<-hT.out,hlv]
    obtain⟨a1,c1,hva⟩:=hS.sl;subst hva;have hOb:ai [] w ((wc.iter r r.size).alloc (.cells #[.string r] 9)):=(hO.alloc (.stringIter r r.size)).alloc _;have hSb:Sl 9 l9 1 w.heap.size ((wc.iter r r.size).alloc (.cells #[.string r] 9)) (.slice a1 T.length c1) T:=hS.nil' (((ai.refl [] wc).alloc (.stringIter r r.size)).alloc _);have hRb:=aA.new (enc:=l9) (T:=9) (wc.iter r r.size) r 1;have Mx:T.length<=1048576:=by omega
    change Hid _ at lC hOb;clear hlv hg hA hO hS hT;go_wp2_with(at_builtin;refine iX rfl (.tmp 28) (.tmp 30) rfl Ip hOb.out rfl hSb rfl hRb (by simp only[List.length_singleton];omega) (by unfold maxLen;simp only[List.length_singleton];omega) ?_;intro Jl w5 hS5 aB _ _;rw[lC.out]at hS5;have F:=af (And.intro hS5 aB);clear hS5 aB)
    simp only[Exit.jump];go_ret
    exact⟨_,rfl,F.out⟩
end Go.Proofs.YtedcakchekaemaaGreatDoor
namespace Go.Proofs.YtedcakchekaemaaGreatDoor
open Go.RowKit
theorem Pg{α β:Type}(f:α->List β)(l:List α)(i:Nat)(d:α):((l.take i++[d]++l.drop i).flatMap f).Perm (f d++l.flatMap f):=by
 have h:(l.take i++[d]++l.drop i).Perm (d::l):=by
  rw[List.append_assoc];refine(List.perm_append_comm_assoc _ _ _).trans ?_;rw[List.take_append_drop];exact List.Perm.refl _
 rw[<-List.flatMap_cons];exact h.flatMap_right f
theorem au.insDev{w w2 w3:World}{n:Nat}{g nm:ByteArray}{L:EW}{s:EN}(h:au w n g nm L s){i:Nat}{d:DW}{x:bQ}{v':Value}(ho2:ai [] w w2)(hD:eX w2 d x)(hda:d.a=none)(hge:w.heap.size<=d.blk)
  (hS:Sl 164 gZ 1 0 w3 v' (L.ds.take i++[d]++L.ds.drop i))(ho3:ai L.dv.ownBlock.toList w2 w3)(hg: ∀b,v'.ownBlock=some b->L.dv.ownBlock=some b\/w2.heap.size<=b)(hl:L.ds.length<=3)(hi:i<=L.ds.length):
  au (w3.setCell ⟨n,8,none⟩ v') n g nm {L with dv:=v',ds:=L.ds.take i++[d]++L.ds.drop i} {s with dev:=s.dev.take i++[x]++s.dev.drop i}/\
   ai (L.feet n) w (w3.setCell ⟨n,8,none⟩ v')/\(∀y∈({L with dv:=v',ds:=L.ds.take i++[d]++L.ds.drop i}:EW).feet n,y∈L.feet n\/w.heap.size<=y):=by
 have hA:=h.apart;have hA':=hA;unfold EW.feet at hA';simp only[List.nodup_cons,List.mem_cons,List.mem_append,not_or]at hA';obtain⟨⟨a1,a2,a3,a4,a5,a6⟩,⟨b2,b3,b4,b5,b6⟩,⟨c3,c4,c5,c6⟩,⟨d4,d5,d6⟩,hN⟩:=hA';obtain⟨_,hN2,hN3⟩:=List.nodup_append.1 hN;obtain⟨_,_,hN4⟩:=List.nodup_append.1 hN2;have hsz2:=ho2.size;have hdl:d.blk<w2.heap.size:=aj hD.1;have hbase:(L.feet n).Perm (L.dv.ownBlock.toList++(n::L.rb::L.tb::L.tm::(bJ L.ia++L.ds.flatMap iD))):=by
  refine List.perm_iff_count.2 fun y=>?_
  unfold EW.feet;have hf:(L.ds.flatMap fun d=>d.blk::bJ d.a)=L.ds.flatMap iD:=rfl;rw[hf];simp only[List.count_cons,List.count_append];omega
 have hnew:(({L with dv:=v',ds:=L.ds.take i++[d]++L.ds.drop i}:EW).feet n).Perm (v'.ownBlock.toList++(d.blk::(n::L.rb::L.tb::L.tm::(bJ L.ia++L.ds.flatMap iD)))):=by
  have hfl:=Pg iD L.ds i d;have hd:iD d=[d.blk]:=by unfold iD bJ;rw[hda];rfl
  rw[hd]at hfl;refine List.perm_iff_count.2 fun y=>?_
  have hc:=hfl.count_eq y;unfold EW.feet;have hf:((L.ds.take i++[d]++L.ds.drop i).flatMap fun d=>d.blk::bJ d.a)=(L.ds.take i++[d]++L.ds.drop i).flatMap iD:=rfl;simp only[hf];simp only[List.count_cons,List.count_append,List.count_nil]at hc⊢;omega
 have hbl: ∀y∈n::L.rb::L.tb::L.tm::(bJ L.ia++L.ds.flatMap iD),y<w.heap.size:=fun y hy=>h.lt y (hbase.symm.subset (List.mem_append_right _ hy))
 have hbn:(n::L.rb::L.tb::L.tm::(bJ L.ia++L.ds.flatMap iD)).Nodup:=(List.nodup_append.1 (hbase.nodup_iff.1 hA)).2.1;have hsub: ∀y∈({L with dv:=v',ds:=L.ds.take i++[d]++L.ds.drop i}:EW).feet n,y∈L.feet n\/w.heap.size<=y:=fun y hy=>by
  rcases List.mem_append.1 (hnew.subset hy)with h1|h1
  ·rcases hg y (Option.mem_toList.1 h1)with h2|h2
   ·exact .inl (hbase.symm.subset (List.mem_append_left _ (Option.mem_toList.2 h2)))
   ·exact .inr (by omega)
  ·rcases List.mem_cons.1 h1 with h2|h2
   ·exact .inr (by omega)
   ·exact .inl (hbase.symm.subset (List.mem_append_right _ h2))
 have hdn:(d.blk::(n::L.rb::L.tb::L.tm::(bJ L.ia++L.ds.flatMap iD))).Nodup:=List.nodup_cons.2 ⟨fun hm=>by have:=hbl _ hm;omega,hbn⟩;have hap:(({L with dv:=v',ds:=L.ds.take i++[d]++L.ds.drop i}:EW).feet n).Nodup:=by
  refine hnew.nodup_iff.2 ?_;cases hv:v'.ownBlock with
  |none=>simpa using hdn
  |some b=>
   simp only[Option.toList_some,List.singleton_append];refine List.nodup_cons.2 ⟨fun hm=>?_,hdn⟩;rcases hg b hv with h1|h1
   ·have hb2:=hbase.nodup_iff.1 hA
    rw[h1]at hb2;simp only[Option.toList_some,List.singleton_append]at hb2;rcases List.mem_cons.1 hm with h2|h2
    ·have:=(h.dvs.block h1).2;omega
    ·exact(List.nodup_cons.1 hb2).1 h2
   ·rcases List.mem_cons.1 hm with h2|h2
    ·omega
    ·have:=hbl b h2;omega
 have hO4:ai [n] w3 (w3.setCell ⟨n,8,none⟩ v'):=(ai.refl _ _).setCell (by simp) _;have hvn: ∀y,y∈L.feet n->y∉L.dv.ownBlock.toList->y≠n->y∉[n]:=fun y _ _ h1=>by simpa using h1
 have h2:=h.nil' ho2;have abZ: ∀y,L.dv.ownBlock≠some y->y∉L.dv.ownBlock.toList:=fun y h1 h2=>h1 (Option.mem_toList.1 h2)
 have hdi: ∀y,y∈bJ L.ia->y∉L.dv.ownBlock.toList:=fun y hy hx=>hN3 y hy y (List.mem_append_left _ hx) rfl
 have hdd: ∀y,y∈L.ds.flatMap iD->y∉L.dv.ownBlock.toList:=fun y hy hx=>hN4 y hx y hy rfl
 have hnd:n∉L.dv.ownBlock.toList:=a5;refine⟨⟨heap_setCell_same _ _ _ _ _ _ (ho3.heap h2.row hnd),(h2.rrow.own ho3 b5).own hO4 (by simpa using Ne.symm a1),(h2.tab.own ho3 c5 d5).own hO4 (by simpa using Ne.symm a2) (by simpa using Ne.symm a3),(h2.its.own' ho3 (fun b hb=>hdi b (bB hb))).own' hO4 (fun b hb=>by simp;rintro rfl;exact a4 (bB hb)),hS.own hO4 (fun b hb=>?_),by simp[h.len,List.length_take],fun j e y he hy=>?_,hap,⟨h.few.1,h.few.2.1,?_⟩⟩,?_,hsub⟩
 ·simp;rintro rfl
  rcases hg b hb with h1|h1
  ·exact a5 (by simp[h1])
  ·have:=h.lt b (by unfold EW.feet;simp);omega
 ·have hmem: ∀(j:Nat) e y,(L.ds.take i++[d]++L.ds.drop i)[j]?=some e->(s.dev.take i++[x]++s.dev.drop i)[j]?=some y->(e=d/\y=x)\/ ∃k,L.ds[k]?=some e/\s.dev[k]?=some y:=fun j e y he hy=>by
   have hlt:(L.ds.take i).length=i:=by rw[List.length_take];omega
   have hls:(s.dev.take i).length=i:=by rw[List.length_take,h.len];omega
   rw[List.append_assoc,List.getElem?_append,hlt]at he;rw[List.append_assoc,List.getElem?_append,hls]at hy;by_cases hj:j<i
   ·rw[if_pos hj]at he hy
    rw[List.getElem?_take_of_lt hj]at he hy;exact .inr ⟨j,he,hy⟩
   ·rw[if_neg hj]at he hy
    rcases hk:j-i with _|k
    ·rw[hk]at he hy
     simp at he hy;exact .inl ⟨he.symm,hy.symm⟩
    ·rw[hk]at he hy
     simp only[List.singleton_append,List.getElem?_cons_succ,List.getElem?_drop]at he hy;exact .inr ⟨_,he,hy⟩
  rcases hmem j e y he hy with⟨rfl,rfl⟩|⟨k,q1,q2⟩
  ·exact(hD.own ho3 (abZ _ (fun e1=>by have:=(h.dvs.block e1).2;omega)) (fun b hb=>by rw[hda]at hb;cases hb)).own hO4 (by have:=h.lt n (by unfold EW.feet;simp);simp;omega) (fun b hb=>by rw[hda]at hb;cases hb)
  ·have hm:e∈L.ds:=List.mem_of_getElem? q1
   have hin: ∀b,b∈iD e->b∉L.dv.ownBlock.toList/\b∉[n]:=fun b hb=>⟨hdd b (List.mem_flatMap.2 ⟨e,hm,hb⟩),by simp;rintro rfl;exact a6 (List.mem_flatMap.2 ⟨e,hm,hb⟩)⟩
   exact((h2.devs k e y q1 q2).own ho3 (hin _ (List.mem_cons_self ..)).1 (fun b hb=>(hin b (List.mem_cons_of_mem _ (bB hb))).1)).own hO4 (hin _ (List.mem_cons_self ..)).2 (fun b hb=>(hin b (List.mem_cons_of_mem _ (bB hb))).2)
 ·have:=h.len
  simp[List.length_take];omega
 ·refine(ho2.nil.trans (ho3.mono fun y hy=>hbase.symm.subset (List.mem_append_left _ hy))).trans (hO4.mono fun y hy=>?_)
  simp at hy;subst hy;unfold EW.feet;simp
theorem wE{W:World}{n:Nat}{g nm:ByteArray}{L:EW}{s:EN}(h:au W n g nm L s){i:Nat}{d:DW}(hi:L.ds[i]?=some d): ∃gb cp,L.dv=.slice (some ⟨gb,0,none⟩) L.ds.length cp/\W.cell? ⟨gb,i,none⟩=some (.pointer (some ⟨d.blk,0,none⟩)):=by
 rcases h.dvs.form with⟨h1,h2⟩|⟨gb,cp,h1,_,hR⟩
 ·rw[h2]at hi;simp at hi
 ·have:=hR.cell sZ hi (show(gZ d)[0]?=_ from rfl)
  exact⟨gb,cp,h1,by simpa using this⟩
theorem DL{W:World}{n:Nat}{g nm:ByteArray}{L:EW}{s:EN}(h:au W n g nm L s)(dn:ByteArray)(a:Option Addr)(l:List bD)(c:Nat)(hA:aY W a l)(QM: ∀b,a.map (·.block)=some b->b∉L.feet n):
  Calls Tryz.prog 262 #[.pointer (some ⟨L.tb,0,none⟩),.string dn,.slice a l.length c] W fun e w'=>(∃c,e=.returned (.int .i64 c))/\au w' n g nm L {s with al:=(oD s.al dn l).2}/\ai (L.feet n) W w'/\aY w' a l:=by
 refine(AB L.tb L.tm s.al dn a l.length c (dJ l) W h.tab (oG hA) (by have:=h.few.2.1;omega)).mono ?_;rintro e w' ⟨rfl,hT,hO⟩;rw[lN]at hT⊢;have hO2:ai (L.feet n) W w':=hO.mono (fun y hy=>by simp at hy;subst hy;unfold EW.feet;simp);exact⟨⟨_,rfl⟩,h.setTab (hO.mono (by simp)) hT (tq _ _ _ h.few.2.1),hO2,hA.own hO2 QM⟩
theorem zX{W:World}{n:Nat}{g nm:ByteArray}{L:EW}{s:EN}(h:au W n g nm L s){i:Nat}{d:DW}{x:bQ}(hi:L.ds[i]?=some d)(hx:s.dev[i]?=some x)(a:Option Addr)(l:List bD)(c:Nat)(hA:aY W a l)(hl:l.length<=32):
  Calls Tryz.prog 310 #[.pointer (some ⟨d.blk,0,none⟩),.slice a l.length c] W fun e w'=>e=.returned (.int .i64 0)/\ ∃L',au w' n g nm L' {s with dev:=s.dev.set i ⟨x.name,true,l⟩}/\ai (L.feet n) W w'/\(∀y∈L'.feet n,y∈L.feet n\/W.heap.size<=y):=by
 refine(KM d x a l c W (h.devs i d x hi hx) hA hl).mono ?_;rintro e w' ⟨rfl,d',hb,hP,hO,hf⟩;obtain⟨h1,h2⟩:=h.setDev (x':=⟨x.name,true,l⟩) hi hP hb hO hf;exact⟨rfl,_,h1,hO.mono (fun y hy=>by simp at hy;subst hy;exact(nP L n i hi).symm.subset (List.mem_cons_self ..)),h2⟩
theorem lS{n:Nat}{g nm:ByteArray}{L L1:EW}{s:EN}{w w1 w2:World}(ho:ai (L.feet n) w w1)(hf: ∀y∈L1.feet n,y∈L.feet n\/w.heap.size<=y)(h: ∃L',au w2 n g nm L' s/\ai (L1.feet n) w1 w2/\(∀y∈L'.feet n,y∈L1.feet n\/w1.heap.size<=y)):
  ∃L',au w2 n g nm L' s/\ai (L.feet n) w w2/\(∀y∈L'.feet n,y∈L.feet n\/w.heap.size<=y):=by
 obtain⟨L',h1,h2,h3⟩:=h;refine⟨L',h1,ho.trans' h2 hf,fun y hy=>?_⟩;rcases h3 y hy with h4|h4
 ·exact hf y h4
 ·exact .inr (Nat.le_trans ho.size h4)
theorem Ph(n:Nat)(g nm:ByteArray)(L:EW)(s:EN)(i:Nat)(d:DW)(x:bQ)(dn:ByteArray)(a:Option Addr)(l:List bD)(c:Nat)(w:World)(h:au w n g nm L s)(hi:L.ds[i]?=some d)(hx:s.dev[i]?=some x)(hA:aY w a l)(hl:l.length<=32)(QM: ∀b,a.map (·.block)=some b->b∉L.feet n):
  Calls Tryz.prog 272 #[.pointer (some ⟨n,0,none⟩),.int .i64 i,.bool true,.string dn,.slice a l.length c] w (dD n g nm L (1,{s with al:=(oD s.al dn l).2,dev:=s.dev.set i ⟨x.name,true,l⟩}) w):=by
 have cS:=af (DL h dn a l c hA QM);have hC:=af fun W s' (hk:au W n g nm L s')=>aM hk (S:=[]) (by simp) W (ai.refl _ _)
 have hD:=af fun W s' (hk:au W n g nm L s')=>wE hk hi
 have hB:=af fun W (s':EN) (hk:au W n g nm L s') hx hA=>zX (i:=i) (d:=d) (x:=x) (a:=a) (l:=l) (c:=c) hk hi hx hA hl
 obtain⟨⟨k2,k3,k4,k5,k6,k7,k8⟩,_⟩:=hC.out w s h;obtain⟨gb,cp,hdv,_⟩:=hD.out w s h;have hx2:({s with al:=(oD s.al dn l).2}:EN).dev[i]?=some x:=hx;have hil:i<L.ds.length:=(List.getElem?_eq_some_iff.1 hi).1;have hi4:L.ds.length<=4:=by have:=h.few.2.2;rw[h.len]at this;exact this
 have WT: ∀y∈L.feet n,y∈L.feet n\/w.heap.size<=y:=fun y hy=>.inl hy
 change Hid _ at hx2 hdv WT;unfold dD;clear h hA QM k2 k3 k4 k5 k6 hi hx;go_enter Tryz.func272,Tryz.ntmps272
 go_wp2_with(go_at_call 262;(with_reducible refine cS.out.mono ?_);rintro e w1 ⟨⟨c1,rfl⟩,hE1,aH,hA1⟩;obtain⟨⟨_,_,_,_,_,_,z8⟩,_⟩:=hC.out _ _ hE1;rw[hdv.out]at z8;obtain⟨gb1,cp1,zn,hcl⟩:=hD.out _ _ hE1;rw[hdv.out]at zn;cases zn;have cB:=af (hB.out _ _ hE1 hx2.out hA1);clear hA1;replace hE1:=af hE1;replace aH:=af aH)
 go_wp2_with(go_at_call 310;(with_reducible refine cB.out.mono ?_);rintro e w2 ⟨rfl,hx3⟩;replace hx3:=af hx3)
 go_ret
 exact⟨rfl,lS aH.out WT.out hx3.out⟩
theorem Bn{α:Type}(l:List α)(i:Nat)(x y:α)(hi:i<=l.length):(l.take i++[x]++l.drop i).set i y=l.take i++[y]++l.drop i:=by
 have e:(l.take i).length=i:=by rw[List.length_take];omega
 rw[List.append_assoc,List.append_assoc,List.set_append_right _ _ (by omega),e,Nat.sub_self];rfl
theorem Sn(n:Nat)(g nm:ByteArray)(L:EW)(s:EN)(i:Nat)(dn:ByteArray)(a:Option Addr)(l:List bD)(c:Nat)(w:World)(h:au w n g nm L s)(hi:i<=L.ds.length)(h3:L.ds.length<=3)(hdn:dn.toList.isEmpty=false)(hA:aY w a l)(hl:l.length<=32)
  (QM: ∀b,a.map (·.block)=some b->b∉L.feet n)(hal: ∀b,a.map (·.block)=some b->b<w.heap.size):
  Calls Tryz.prog 272 #[.pointer (some ⟨n,0,none⟩),.int .i64 i,.bool false,.string dn,.slice a l.length c] w (dD n g nm L (1,{s with al:=(oD s.al dn l).2,dev:=s.dev.take i++[⟨dn,true,l⟩]++s.dev.drop i}) w):=by
 have cN:=af (O3 dn w hdn);have hlen:=h.len;have hln:n<w.heap.size:=aj h.row;obtain⟨da,dc,hdv⟩:=h.dvs.sl;have hC0: ∀W,ai [] w W->W.cell? ⟨n,8,none⟩=some (.slice da L.ds.length dc):=fun W ho=>by rw[<-hdv];exact(aM h (S:=[]) (by simp) W ho).1.2.2.2.2.2.2
 have hIn: ∀w1 b,ai [] w w1->Calls Tryz.prog 309 #[.slice da L.ds.length dc,.int .i64 i,.slice (some ⟨w1.heap.size,0,none⟩) 1 1] (w1.alloc (.cells #[.pointer (some ⟨b,0,none⟩)] 164)) (AL (.slice da L.ds.length dc) (L.ds.take i++[⟨b,none,0,0⟩]++L.ds.drop i) (w1.alloc (.cells #[.pointer (some ⟨b,0,none⟩)] 164))):=fun w1 b ho=>by
  have:=RJ L.dv L.ds ⟨b,none,0,0⟩ w1.heap.size i (w1.alloc (.cells #[.pointer (some ⟨b,0,none⟩)] 164)) (h.dvs.nil' (ho.alloc _)) (heap_alloc_new w1 _) (fun e=>by have h1:=(h.dvs.block e).2;have h2:=ho.size;omega) h3 hi;rw[hdv]at this;exact this
 have hcl:(L.ds.take i++[(⟨0,none,0,0⟩:DW)]++L.ds.drop i).length=L.ds.length+1:=by simp;omega
 have QN: ∀w1 w3 b v',ai [] w w1->eX w1 ⟨b,none,0,0⟩ ⟨dn,false,[]⟩->w.heap.size<=b->Sl 164 gZ 1 0 w3 v' (L.ds.take i++[⟨b,none,0,0⟩]++L.ds.drop i)->ai (Value.slice da L.ds.length dc).ownBlock.toList (w1.alloc (.cells #[.pointer (some ⟨b,0,none⟩)] 164)) w3->
   (∀q,v'.ownBlock=some q->(Value.slice da L.ds.length dc).ownBlock=some q\/(w1.alloc (.cells #[.pointer (some ⟨b,0,none⟩)] 164)).heap.size<=q)->
   (w3.frozen? ⟨n,8,none⟩=false/\w3.cell? ⟨n,8,none⟩=some (.slice da L.ds.length dc)/\w3.cell? ⟨n,7,none⟩=some (.pointer (some ⟨L.tb,0,none⟩)))/\
   ∃L1,L1.tb=L.tb/\L1.ds=L.ds.take i++[⟨b,none,0,0⟩]++L.ds.drop i/\L1.dv=v'/\au (w3.setCell ⟨n,8,none⟩ v') n g nm L1 {s with dev:=s.dev.take i++[⟨dn,false,[]⟩]++s.dev.drop i}/\ai (L.feet n) w (w3.setCell ⟨n,8,none⟩ v')/\(∀y∈L1.feet n,y∈L.feet n\/w.heap.size<=y):=fun w1 w3 b v' ho hD hb hS ho3 hg=>by
  rw[<-hdv]at ho3 hg;have hA2:=ho.alloc (.cells #[.pointer (some ⟨b,0,none⟩)] 164);have hnn:n∉L.dv.ownBlock.toList:=by
   have:=h.apart;unfold EW.feet at this;simp only[List.nodup_cons,List.mem_cons,List.mem_append,not_or]at this;exact this.1.2.2.2.2.1
  have hrow:=ho3.heap (hA2.heap h.row (by simp)) hnn;obtain⟨q1,q2,q3⟩:=h.insDev (i:=i) (d:=⟨b,none,0,0⟩) (x:=⟨dn,false,[]⟩) hA2 (hD.nil' ((ai.refl _ _).alloc _)) rfl hb hS ho3 hg h3 hi;exact⟨⟨frozen_of_row _ _ _ _ _ hrow,by rw[<-hdv];exact cell_of_row _ _ 8 _ _ _ hrow,cell_of_row _ _ 7 _ _ _ hrow⟩,{L with dv:=v',ds:=L.ds.take i++[⟨b,none,0,0⟩]++L.ds.drop i},rfl,rfl,rfl,q1,q2,q3⟩
 have hS2: ∀W L1 s',au W n g nm L1 s'->ai (L.feet n) w W->(∀y∈L1.feet n,y∈L.feet n\/w.heap.size<=y)->Calls Tryz.prog 262 #[.pointer (some ⟨L1.tb,0,none⟩),.string dn,.slice a l.length c] W fun e w'=>(∃c,e=.returned (.int .i64 c))/\au w' n g nm L1 {s' with al:=(oD s'.al dn l).2}/\ai (L1.feet n) W w'/\aY w' a l:=fun W L1 s' hk ho hf=>
  DL hk dn a l c (hA.own ho QM) (fun b hb hx=>by
   rcases hf b hx with h1|h1
   ·exact QM b hb h1
   ·have:=hal b hb;omega)
 have hC:=af fun W L1 s' (hk:au W n g nm L1 s')=>aM hk (S:=[]) (by simp) W (ai.refl _ _)
 have hD:=af fun W L1 s' d hi' (hk:au W n g nm L1 s')=>wE (i:=i) (d:=d) hk hi'
 have hB:=af fun W L1 (s':EN) d x hi' (hk:au W n g nm L1 s') hx hA=>zX (i:=i) (d:=d) (x:=x) (a:=a) (l:=l) (c:=c) hk hi' hx hA hl
 have hfin: ∀w',(∃L',au w' n g nm L' {s with al:=(oD s.al dn l).2,dev:=(s.dev.take i++[(⟨dn,false,[]⟩:bQ)]++s.dev.drop i).set i ⟨dn,true,l⟩}/\ai (L.feet n) w w'/\(∀y∈L'.feet n,y∈L.feet n\/w.heap.size<=y))-> ∃L',au w' n g nm L' {s with al:=(oD s.al dn l).2,dev:=s.dev.take i++[⟨dn,true,l⟩]++s.dev.drop i}/\ai (L.feet n) w w'/\(∀y∈L'.feet n,y∈L.feet n\/w.heap.size<=y):=fun w' hh=>by
  rw[Bn _ _ _ _ (by omega)]at hh;exact hh
 have hgi: ∀b,(L.ds.take i++[(⟨b,none,0,0⟩:DW)]++L.ds.drop i)[i]?=some ⟨b,none,0,0⟩/\(L.ds.take i++[(⟨b,none,0,0⟩:DW)]++L.ds.drop i).length=L.ds.length+1:=fun b=>by
  have e:(L.ds.take i).length=i:=by rw[List.length_take];omega
  refine⟨?_,by simp;omega⟩;rw[List.append_assoc,List.getElem?_append_right (by omega),e,Nat.sub_self];rfl
 have hgx:(s.dev.take i++[(⟨dn,false,[]⟩:bQ)]++s.dev.drop i)[i]?=some ⟨dn,false,[]⟩:=by
  have e:(s.dev.take i).length=i:=by rw[List.length_take];omega
  rw[List.append_assoc,List.getElem?_append_right (by omega),e,Nat.sub_self];rfl
 unfold dD;change Hid _ at hC0 hIn QN hS2 hfin hgi hgx;have aeH:i<L.ds.length+1:=by omega
 clear h hA QM hal hdv hcl hlen hdn hl;go_enter Tryz.func272,Tryz.ntmps272
 go_wp2_with(first
  |(go_at_call 308;(with_reducible refine cN.out.mono ?_);rintro e w1 ⟨b,rfl,hD1,aH,hb1⟩;have k8:=hC0.out _ aH;have cI:=af (hIn.out w1 b aH);have hSt:=af (fun w3 v'=>QN.out w1 w3 b v' aH hD1 hb1);clear hD1 hb1;replace aH:=af aH)
  |(go_at_call 309;(with_reducible refine cI.out.mono ?_);rintro e w3 ⟨v3,rfl,rO,hO3,hg3⟩;obtain⟨va,vc,rfl⟩:=rO.sl;obtain⟨⟨f8,k83,k73⟩,L1,hL1,hL2,hL3,jN,hO4,BP⟩:=hSt.out _ _ rO hO3 hg3;rw[(hgi.out b).2]at hL3 jN hO4⊢;have cS4:=hS2.out _ _ _ jN hO4 BP;rw[hL1]at cS4;replace cS4:=af cS4;replace hL1:=af hL1;replace hL2:=af hL2;replace hL3:=af hL3;replace jN:=af jN;replace hO4:=af hO4;replace BP:=af BP;clear rO hO3 hg3))
 go_wp2_with(go_at_call 262;(with_reducible refine cS4.out.mono ?_);rintro e w5 ⟨⟨c1,rfl⟩,iF,aB,EB⟩;obtain⟨⟨_,_,_,_,_,_,z8⟩,_⟩:=hC.out _ _ _ iF;rw[hL3.out]at z8;obtain⟨gb,cp,zn,aeI⟩:=hD.out _ _ _ _ (by rw[hL2.out];exact(hgi.out b).1) iF;rw[hL3.out,hL2.out,(hgi.out b).2]at zn;cases zn;have cB:=af (hB.out _ _ _ _ _ (by rw[hL2.out];exact(hgi.out b).1) iF hgx.out EB);clear EB;have MK:=af (hO4.out.trans' aB BP.out);clear iF aB)
 go_wp2_with(go_at_call 310;(with_reducible refine cB.out.mono ?_);rintro e w6 ⟨rfl,hx3⟩;replace hx3:=af hx3)
 go_ret
 exact⟨rfl,hfin.out _ (lS MK.out BP.out hx3.out)⟩
end Go.Proofs.YtedcakchekaemaaGreatDoor
namespace Go.Proofs.YtedcakchekaemaaGreatDoor
open Go.RowKit Go.Lib Go.Shelf
def sS(s:ByteArray):Bool:=s.toList.head?==some 36
theorem wU{s:ByteArray}(h:0<s.size)(c:UInt8):((s.extract 0 1).toList==[c])=(s.toList.head?==some c):=by
 have hx:(s.extract 0 1).toList=[s.get! 0]:=by
  rw[Nh];have:=ou s 0 h;cases hl:s.toList with
  |nil=>rw[hl]at this;simp at this
  |cons c r=>rw[hl]at this;simp at this;simp[this]
 have hh:s.toList.head?=some (s.get! 0):=by rw[List.head?_eq_getElem?];exact ou s 0 h
 rw[hh,hx];simp
theorem EO(s:ByteArray)(w:World)(h0:0<s.size):Calls Tryz.prog 244 #[.string s] w fun e w'=>e=.returned (.bool (sS s))/\w=w':=by
 unfold sS;have hge:(1:Int)<=s.size:=by omega
 have hb:=wU h0 36;generalize(s.toList.head?==some (36:UInt8))=bb at hb⊢;go_enter Tryz.func244,Tryz.ntmps244
 go_wp2_with go_in
 go_ret
 exact⟨rfl,rfl⟩
def UW(s:ByteArray):Bool:=s.toList.head?==some 43||s.toList.head?==some 35
theorem begin_any(f n:ByteArray)(w:World)(hf:0<f.size)(hn:0<n.size):
  Calls Tryz.prog 201 #[.string f,.string n] w fun e w'=>e=.returned (.agg #[.bool (UW f),.bool (sS n)])/\ai [] w w':=by
 have H:=af (fun W=>EO n W hn);unfold UW;have hge:(1:Int)<=f.size:=by omega
 have hp:=wU hf 43;have hh:=wU hf 35;generalize(f.toList.head?==some (43:UInt8))=b1 at hp⊢;generalize(f.toList.head?==some (35:UInt8))=b2 at hh⊢;generalize sS n=b3 at H⊢;cases b1
 ·go_enter Tryz.func201,Tryz.ntmps201
  go_wp2_with fail
  refine wp_region_still_tail 11 (by kernel_rfl) (by kernel_rfl) ?_;simp only[List.take_succ_cons,List.take_zero,List.drop_succ_cons,List.drop_zero]
  repeat(first|still_step|(still_call ((H.out _).mono (fun e w' h=>⟨h.1,h.2.symm⟩))))
  refine wpStill_nil ?_;change wpList _ _ _ _ _ ((w.alloc (.cells #[.bool false,.bool false] 323)).drew);go_wp2_with fail
  refine bodyPost_ret (v:=.agg #[.bool b2,.bool b3]) (by simp[results,Tryz.results201,go_sem]) rfl ⟨by simp,?_⟩
  repeat(first|exact ai.refl _ _|(refine ai.setCell ?_ (by simp) _)|refine ai.alloc ?_ _|refine ai.drew ?_)
 ·go_enter Tryz.func201,Tryz.ntmps201
  go_wp2_with fail
  refine wp_region_still_tail 11 (by kernel_rfl) (by kernel_rfl) ?_;simp only[List.take_succ_cons,List.take_zero,List.drop_succ_cons,List.drop_zero]
  repeat(first|still_step|(still_call ((H.out _).mono (fun e w' h=>⟨h.1,h.2.symm⟩))))
  refine wpStill_nil ?_;change wpList _ _ _ _ _ ((w.alloc (.cells #[.bool false,.bool false] 323)).drew);go_wp2_with fail
  refine bodyPost_ret (v:=.agg #[.bool true,.bool b3]) (by simp[results,Tryz.results201,go_sem]) rfl ⟨by simp,?_⟩
  repeat(first|exact ai.refl _ _|(refine ai.setCell ?_ (by simp) _)|refine ai.alloc ?_ _|refine ai.drew ?_)
structure EP (w:World) (va vb:Value) (a b h f:Nat):Prop where
 ca:w.cell? ⟨a,0,none⟩=some va
 cb:w.cell? ⟨b,0,none⟩=some vb
 ch:w.cell? ⟨h,0,none⟩=some (.func (.func 203) #[] #[])
 cf:w.cell? ⟨f,0,none⟩=some (.func (.func 245) #[] #[.pointer (some ⟨a,0,none⟩),.pointer (some ⟨b,0,none⟩),.pointer (some ⟨h,0,none⟩),.pointer (some ⟨f,0,none⟩)])
theorem EP.nil{w w':World}{va vb:Value}{a b h f:Nat}(H:EP w va vb a b h f)(ho:ai [] w w'):EP w' va vb a b h f:=
 ⟨(ho.cell (block_lt_of_cell H.ca) (by simp)).trans H.ca,(ho.cell (block_lt_of_cell H.cb) (by simp)).trans H.cb,(ho.cell (block_lt_of_cell H.ch) (by simp)).trans H.ch,(ho.cell (block_lt_of_cell H.cf) (by simp)).trans H.cf⟩
def lH(xs:List ByteArray):ByteArray:=⟨(Lib.join (xs.map (·.data.toList)) [47]).toArray⟩
theorem EQ(x y:List UInt8)(t:List (List UInt8)):Lib.join (x::y::t) [47]=x++47::Lib.join (y::t) [47]:=by
 rw[Lib.join_cons,Lib.join_cons];unfold Lib.joinTail;simp
theorem uE:Builder.Extra Tryz.prog Tryz.laysJoin_ren where
 sizeBuilder:=by kernel_rfl
 liesBuilder:=by kernel_rfl
 t5:=Tryz.underlying5
 a5:=Tryz.isAgg5
 z5:=Tryz.sizeOf5
 v5:=Tryz.zeroValue5
 infoByte:=by kernel_rfl
 cellsByte:=by kernel_rfl
 sizeByte:=by kernel_rfl
 neB5:=by decide
theorem Nj(xs:List ByteArray)(v:Value)(w:World)(h:aA l9 w v xs)(hc:eB v)(hl:xs.length<=1000)(hs:(lH xs).size<=1000):
  Calls Tryz.prog 90 #[v] w fun e w'=>e=.returned (.string (lH xs))/\ai [] w w':=by
 have hJ:Calls Tryz.prog 159 #[v,.string ⟨#[47]⟩] w fun e w'=>e=.returned (.string (lH xs))/\ai [] w w':=by
  rcases h with⟨rfl,rfl⟩|⟨b,o,c,rfl,hR⟩
  ·refine(Any.strings_Join_none Tryz.laysJoin uE none 0 ⟨#[47]⟩ w).mono ?_
   rintro e w' ⟨rfl,rfl⟩;exact⟨rfl,ai.refl _ _⟩
  ·by_cases hx:xs=[]
   ·subst hx
    refine(Any.strings_Join_none Tryz.laysJoin uE _ c ⟨#[47]⟩ w).mono ?_;rintro e w' ⟨rfl,rfl⟩;exact⟨rfl,ai.refl _ _⟩
   ·have hcells: ∀(j:Nat) x,xs[j]?=some x->w.cell? ⟨b,o+j,none⟩=some (.string x):=fun j x hj=>by
     refine hR j _ ?_;have:=fe kG xs j 0 x hj (by omega);simpa[l9]using this
    have hpos:0<xs.length:=List.length_pos_iff.2 hx;have hbk:b<w.heap.size:=block_lt_of_cell (hcells 0 xs[0] (List.getElem?_eq_getElem hpos));refine(Any.strings_Join Tryz.laysJoin uE b o c xs ⟨#[47]⟩ w hcells hbk (by omega) (hc _ _ _ rfl) ?_).mono ?_
    ·have:(lH xs).size=(Lib.join (xs.map (·.data.toList)) [47]).length:=by unfold lH;rfl
     show(Lib.join (xs.map (·.data.toList)) [47]).length<=_;omega
    ·rintro e w' ⟨rfl,hb⟩
     exact⟨rfl,ai.of_below hb (Nat.le_refl _)⟩
 replace hJ:=af hJ;obtain⟨a,cp,rfl⟩:=h.form;clear h hc hs;go_enter Tryz.func90,Tryz.ntmps90
 go_wp2_with(go_at_call 159;refine hJ.out.mono ?_;rintro e w2 ⟨rfl,hO2⟩;replace hO2:=af hO2)
 go_ret
 exact⟨rfl,hO2.out⟩
end Go.Proofs.YtedcakchekaemaaGreatDoor
