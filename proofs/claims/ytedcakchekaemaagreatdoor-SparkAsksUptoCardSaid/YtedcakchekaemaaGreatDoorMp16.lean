/- Contracts of the program, part 16. -/
import Derived.Test.YtedcakchekaemaaGreatDoorMp13
set_option maxRecDepth 100000
set_option maxHeartbeats 16000000
set_option linter.all false
namespace Go.Proofs.YtedcakchekaemaaGreatDoor
open Go.RowKit
def iW(d:DW):List Nat:=d.blk::bP d.a
def EW.others(L:EW)(n i:Nat):List Nat:=n::L.rb::L.tb::L.tm::(bP L.ia++(L.dv.ownBlock.toList++(L.ds.eraseIdx i).flatMap iW))
theorem oP(L:EW)(n i:Nat){d:DW}(h:L.ds[i]?=some d):(L.feet n).Perm (d.blk::(bP d.a++L.others n i)):=by
 obtain⟨hl,he⟩:=List.getElem?_eq_some_iff.1 h;have hp:(L.ds.flatMap iW).Perm ((d::L.ds.eraseIdx i).flatMap iW):=by
  rw[<-he];exact((zy L.ds i hl).symm).flatMap_right _
 refine List.perm_iff_count.2 fun x=>?_
 have hc:=hp.count_eq x;rw[List.flatMap_cons]at hc;have hd:iW d=d.blk::bP d.a:=rfl;rw[hd]at hc;have hf:(L.ds.flatMap fun d=>d.blk::bP d.a)=L.ds.flatMap iW:=rfl;unfold EW.feet EW.others;rw[hf];simp only[List.count_cons,List.count_append]at hc⊢;omega
theorem IX{A A' R:List Nat}{B:Nat}(h:(A++R).Nodup)(hlt: ∀x∈R,x<B)(hA:A'.Nodup)(hge: ∀x∈A',B<=x):(A'++R).Nodup:=
 List.nodup_append.2 ⟨hA,(List.nodup_append.1 h).2.1,fun x hx y hy e=>by have:=hge x hx;have:=hlt y hy;omega⟩
theorem Fh(a:Option Addr):(bP a).Nodup:=by unfold bP;cases a<;>simp
theorem wX{a:Option Addr}{b:Nat}(h:b∈bP a):a.map (·.block)=some b:=by unfold bP at h;exact Option.mem_toList.1 h
theorem au.setTab{w w':World}{n:Nat}{g nm:ByteArray}{L:EW}{s:EN}(h:au w n g nm L s){al:dY}(ho:ai [L.tb,L.tm] w w')(hT:uS w' L.tb L.tm al)(hl:al.length<=64):
  au w' n g nm L {s with al:=al}:=by
 have hA:=h.apart;unfold EW.feet at hA;simp only[List.nodup_cons,List.mem_cons,List.mem_append,not_or]at hA;obtain⟨⟨a1,a2,a3,a4,a5,a6⟩,⟨b2,b3,b4,b5,b6⟩,⟨c3,c4,c5,c6⟩,⟨d4,d5,d6⟩,_⟩:=hA;have hno: ∀x,x≠L.tb->x≠L.tm->x∉[L.tb,L.tm]:=fun x h1 h2=>by simp[h1,h2]
 refine⟨ho.heap h.row (hno _ a2 a3),h.rrow.own ho (hno _ b2 b3),hT,h.its.own' ho (fun b hb=>hno b (fun e=>c4 (e▸bG hb)) (fun e=>d4 (e▸bG hb))),h.dvs.own ho (fun b hb=>hno b (fun e=>c5 (e▸by simp[hb])) (fun e=>d5 (e▸by simp[hb]))),h.len,fun i d x hd hx=>?_,h.apart,⟨h.few.1,hl,h.few.2.2⟩⟩;have hm:d∈L.ds:=List.mem_of_getElem? hd;have k:=h.devs i d x hd hx;have hin: ∀b,b∈iW d->b≠L.tb/\b≠L.tm:=fun b hb=>⟨fun e=>c6 (List.mem_flatMap.2 ⟨d,hm,e▸hb⟩),fun e=>d6 (List.mem_flatMap.2 ⟨d,hm,e▸hb⟩)⟩
 exact k.own ho (hno _ (hin _ (List.mem_cons_self ..)).1 (hin _ (List.mem_cons_self ..)).2) (fun b hb=>hno b (hin b (List.mem_cons_of_mem _ (bG hb))).1 (hin b (List.mem_cons_of_mem _ (bG hb))).2)
theorem M5{ds:List DW}{i j:Nat}{d:DW}(h:ds[j]?=some d)(hij:i≠j):d∈ds.eraseIdx i:=by
 rw[List.mem_eraseIdx_iff_getElem?];exact⟨j,Ne.symm hij,h⟩
theorem M6{ds:List DW}{i:Nat}{d d':DW}(h:ds[i]?=some d)(hb:d'.blk=d.blk):aI iO (ds.set i d')=aI iO ds:=by
 rw[pV,pV,List.map_set];obtain⟨hl,he⟩:=List.getElem?_eq_some_iff.1 h;rw[hb,<-he];have:(ds.map fun d=>Value.pointer (some ⟨d.blk,0,none⟩))[i]'(by simpa using hl)=.pointer (some ⟨ds[i].blk,0,none⟩):=by simp
 rw[<-this];exact List.set_getElem_self _
theorem au.setDev{w w':World}{n:Nat}{g nm:ByteArray}{L:EW}{s:EN}(h:au w n g nm L s){i:Nat}{d d':DW}{x':bS}(hi:L.ds[i]?=some d)(hP:fF w' d' x')(hb:d'.blk=d.blk)(ho:ai [d.blk] w w')
  (hf: ∀b,d'.a.map (·.block)=some b->d.a.map (·.block)=some b\/w.heap.size<=b):
  au w' n g nm {L with ds:=L.ds.set i d'} {s with dev:=s.dev.set i x'}/\(∀y∈({L with ds:=L.ds.set i d'}:EW).feet n,y∈L.feet n\/w.heap.size<=y):=by
 have hp:=oP L n i hi;obtain⟨hl,he⟩:=List.getElem?_eq_some_iff.1 hi;have hi':({L with ds:=L.ds.set i d'}:EW).ds[i]?=some d':=by simp[hl]
 have hp':=oP {L with ds:=L.ds.set i d'} n i hi';have hoe:({L with ds:=L.ds.set i d'}:EW).others n i=L.others n i:=by unfold EW.others;simp only[List.eraseIdx_set_eq]
 rw[hoe,hb]at hp';have hN:=hp.nodup_iff.1 h.apart;obtain⟨hd1,hd2⟩:=List.nodup_cons.1 hN;have hno: ∀y∈L.others n i,y∉[d.blk]:=fun y hy=>by simp;rintro rfl;exact hd1 (List.mem_append_right _ hy)
 have hlt: ∀y∈d.blk::L.others n i,y<w.heap.size:=fun y hy=>h.lt y (hp.symm.subset (by rcases List.mem_cons.1 hy with h1|h1;exact h1▸List.mem_cons_self ..;exact List.mem_cons_of_mem _ (List.mem_append_right _ h1)))
 have hN':(d.blk::(bP d'.a++L.others n i)).Nodup:=by
  by_cases hsame: ∃b,d'.a.map (·.block)=some b/\d.a.map (·.block)=some b
  ·obtain⟨b,h1,h2⟩:=hsame
   have:bP d'.a=bP d.a:=by unfold bP;rw[h1,h2]
   rw[this];exact hN
  ·have hge: ∀y∈bP d'.a,w.heap.size<=y:=fun y hy=>by
    rcases hf y (wX hy)with h1|h1
    ·exact absurd ⟨y,wX hy,h1⟩ hsame
    ·exact h1
   have hR:(d.blk::L.others n i).Nodup:=hN.sublist ((List.sublist_append_right _ _).cons_cons _);have:=IX (A:=[]) (A':=bP d'.a) (R:=d.blk::L.others n i) hR hlt (Fh _) hge;exact(List.perm_middle (l₁:=bP d'.a) (l₂:=L.others n i) (a:=d.blk)).nodup_iff.1 this
 have hsub: ∀y∈({L with ds:=L.ds.set i d'}:EW).feet n,y∈L.feet n\/w.heap.size<=y:=fun y hy=>by
  rcases List.mem_cons.1 (hp'.subset hy)with h1|h1
  ·exact .inl (hp.symm.subset (h1▸List.mem_cons_self ..))
  ·rcases List.mem_append.1 h1 with h2|h2
   ·rcases hf y (wX h2)with h3|h3
    ·exact .inl (hp.symm.subset (List.mem_cons_of_mem _ (List.mem_append_left _ (bG h3))))
    ·exact .inr h3
   ·exact .inl (hp.symm.subset (List.mem_cons_of_mem _ (List.mem_append_right _ h2)))
 have mo: ∀y,y=n\/y=L.rb\/y=L.tb\/y=L.tm\/y∈bP L.ia\/y∈L.dv.ownBlock.toList->y∉[d.blk]:=fun y hy=>hno y (by
  unfold EW.others;simp only[List.mem_cons,List.mem_append];rcases hy with h1|h1|h1|h1|h1|h1<;>simp[h1])
 have hdv:Sl 164 iO 1 0 w' L.dv (L.ds.set i d'):=by
  have:=h.dvs.own ho (fun b hb=>mo b (by simp[hb]));unfold Sl at this⊢;rw[M6 hi hb,List.length_set];exact this
 refine⟨⟨ho.heap h.row (mo n (by simp)),h.rrow.own ho (mo _ (by simp)),h.tab.own ho (mo _ (by simp)) (mo _ (by simp)),h.its.own' ho (fun b hb=>mo b (by simp[bG hb])),hdv,by simp[h.len],fun j e x he hx=>?_,hp'.nodup_iff.2 hN',⟨h.few.1,h.few.2.1,by simpa using h.few.2.2⟩⟩,hsub⟩;by_cases hij:i=j
 ·subst hij
  have hil:i<s.dev.length:=by rw[h.len];exact hl
  have q1:(L.ds.set i d')[i]?=some d':=hi';have q2:(s.dev.set i x')[i]?=some x':=by simp[hil]
  rw[show({L with ds:=L.ds.set i d'}:EW).ds[i]?=(L.ds.set i d')[i]? from rfl,q1]at he;rw[show({s with dev:=s.dev.set i x'}:EN).dev[i]?=(s.dev.set i x')[i]? from rfl,q2]at hx;cases he;cases hx;exact hP
 ·have q1:L.ds[j]?=some e:=by
   have:(L.ds.set i d')[j]?=some e:=he;rwa[List.getElem?_set_ne hij]at this
  have q2:s.dev[j]?=some x:=by
   have:(s.dev.set i x')[j]?=some x:=hx;rwa[List.getElem?_set_ne hij]at this
  have hm:=M5 q1 hij;have hin: ∀b,b∈iW e->b∉[d.blk]:=fun b hb=>hno b (by
   unfold EW.others;simp only[List.mem_cons,List.mem_append,List.mem_flatMap];exact .inr (.inr (.inr (.inr (.inr (.inr ⟨e,hm,hb⟩))))))
  exact(h.devs j e x q1 q2).own ho (hin _ (List.mem_cons_self ..)) (fun b hb=>hin b (List.mem_cons_of_mem _ (bG hb)))
theorem Rq{α β:Type}(f:α->List β)(l:List α)(i:Nat)(d:α):((l.take i++[d]++l.drop i).flatMap f).Perm (f d++l.flatMap f):=by
 have h:(l.take i++[d]++l.drop i).Perm (d::l):=by
  rw[List.append_assoc];refine(List.perm_append_comm_assoc _ _ _).trans ?_;rw[List.take_append_drop];exact List.Perm.refl _
 rw[<-List.flatMap_cons];exact h.flatMap_right f
theorem au.insDev{w w2 w3:World}{n:Nat}{g nm:ByteArray}{L:EW}{s:EN}(h:au w n g nm L s){i:Nat}{d:DW}{x:bS}{v':Value}(ho2:ai [] w w2)(hD:fF w2 d x)(hda:d.a=none)(hge:w.heap.size<=d.blk)
  (hS:Sl 164 iO 1 0 w3 v' (L.ds.take i++[d]++L.ds.drop i))(ho3:ai L.dv.ownBlock.toList w2 w3)(hg: ∀b,v'.ownBlock=some b->L.dv.ownBlock=some b\/w2.heap.size<=b)(hl:L.ds.length<=3)(hi:i<=L.ds.length):
  au (w3.setCell ⟨n,8,none⟩ v') n g nm {L with dv:=v',ds:=L.ds.take i++[d]++L.ds.drop i} {s with dev:=s.dev.take i++[x]++s.dev.drop i}/\
   ai (L.feet n) w (w3.setCell ⟨n,8,none⟩ v')/\(∀y∈({L with dv:=v',ds:=L.ds.take i++[d]++L.ds.drop i}:EW).feet n,y∈L.feet n\/w.heap.size<=y):=by
 have hA:=h.apart;have hA':=hA;unfold EW.feet at hA';simp only[List.nodup_cons,List.mem_cons,List.mem_append,not_or]at hA';obtain⟨⟨a1,a2,a3,a4,a5,a6⟩,⟨b2,b3,b4,b5,b6⟩,⟨c3,c4,c5,c6⟩,⟨d4,d5,d6⟩,hN⟩:=hA';obtain⟨_,hN2,hN3⟩:=List.nodup_append.1 hN;obtain⟨_,_,hN4⟩:=List.nodup_append.1 hN2;have hsz2:=ho2.size;have hdl:d.blk<w2.heap.size:=aj hD.1;have hbase:(L.feet n).Perm (L.dv.ownBlock.toList++(n::L.rb::L.tb::L.tm::(bP L.ia++L.ds.flatMap iW))):=by
  refine List.perm_iff_count.2 fun y=>?_
  unfold EW.feet;have hf:(L.ds.flatMap fun d=>d.blk::bP d.a)=L.ds.flatMap iW:=rfl;rw[hf];simp only[List.count_cons,List.count_append];omega
 have hnew:(({L with dv:=v',ds:=L.ds.take i++[d]++L.ds.drop i}:EW).feet n).Perm (v'.ownBlock.toList++(d.blk::(n::L.rb::L.tb::L.tm::(bP L.ia++L.ds.flatMap iW)))):=by
  have hfl:=Rq iW L.ds i d;have hd:iW d=[d.blk]:=by unfold iW bP;rw[hda];rfl
  rw[hd]at hfl;refine List.perm_iff_count.2 fun y=>?_
  have hc:=hfl.count_eq y;unfold EW.feet;have hf:((L.ds.take i++[d]++L.ds.drop i).flatMap fun d=>d.blk::bP d.a)=(L.ds.take i++[d]++L.ds.drop i).flatMap iW:=rfl;simp only[hf];simp only[List.count_cons,List.count_append,List.count_nil]at hc⊢;omega
 have hbl: ∀y∈n::L.rb::L.tb::L.tm::(bP L.ia++L.ds.flatMap iW),y<w.heap.size:=fun y hy=>h.lt y (hbase.symm.subset (List.mem_append_right _ hy))
 have hbn:(n::L.rb::L.tb::L.tm::(bP L.ia++L.ds.flatMap iW)).Nodup:=(List.nodup_append.1 (hbase.nodup_iff.1 hA)).2.1;have hsub: ∀y∈({L with dv:=v',ds:=L.ds.take i++[d]++L.ds.drop i}:EW).feet n,y∈L.feet n\/w.heap.size<=y:=fun y hy=>by
  rcases List.mem_append.1 (hnew.subset hy)with h1|h1
  ·rcases hg y (Option.mem_toList.1 h1)with h2|h2
   ·exact .inl (hbase.symm.subset (List.mem_append_left _ (Option.mem_toList.2 h2)))
   ·exact .inr (by omega)
  ·rcases List.mem_cons.1 h1 with h2|h2
   ·exact .inr (by omega)
   ·exact .inl (hbase.symm.subset (List.mem_append_right _ h2))
 have hdn:(d.blk::(n::L.rb::L.tb::L.tm::(bP L.ia++L.ds.flatMap iW))).Nodup:=List.nodup_cons.2 ⟨fun hm=>by have:=hbl _ hm;omega,hbn⟩;have hap:(({L with dv:=v',ds:=L.ds.take i++[d]++L.ds.drop i}:EW).feet n).Nodup:=by
  refine hnew.nodup_iff.2 ?_;cases hv:v'.ownBlock with
  |none=>simpa using hdn
  |some b=>
   simp only[Option.toList_some,List.singleton_append];refine List.nodup_cons.2 ⟨fun hm=>?_,hdn⟩;rcases hg b hv with h1|h1
   ·have hb2:=hbase.nodup_iff.1 hA
    rw[h1]at hb2;simp only[Option.toList_some,List.singleton_append]at hb2;rcases List.mem_cons.1 hm with h2|h2
    ·have:=(h.dvs.block h1).2;omega
    ·exact(List.nodup_cons.1 hb2).1 h2
   ·rcases List.mem_cons.1 hm with h2|h2
    ·omega
    ·have:=hbl b h2;omega
 have hO4:ai [n] w3 (w3.setCell ⟨n,8,none⟩ v'):=(ai.refl _ _).setCell (by simp) _;have hvn: ∀y,y∈L.feet n->y∉L.dv.ownBlock.toList->y≠n->y∉[n]:=fun y _ _ h1=>by simpa using h1
 have h2:=h.nil' ho2;have afO: ∀y,L.dv.ownBlock≠some y->y∉L.dv.ownBlock.toList:=fun y h1 h2=>h1 (Option.mem_toList.1 h2)
 have hdi: ∀y,y∈bP L.ia->y∉L.dv.ownBlock.toList:=fun y hy hx=>hN3 y hy y (List.mem_append_left _ hx) rfl
 have hdd: ∀y,y∈L.ds.flatMap iW->y∉L.dv.ownBlock.toList:=fun y hy hx=>hN4 y hx y hy rfl
 have hnd:n∉L.dv.ownBlock.toList:=a5;refine⟨⟨heap_setCell_same _ _ _ _ _ _ (ho3.heap h2.row hnd),(h2.rrow.own ho3 b5).own hO4 (by simpa using Ne.symm a1),(h2.tab.own ho3 c5 d5).own hO4 (by simpa using Ne.symm a2) (by simpa using Ne.symm a3),(h2.its.own' ho3 (fun b hb=>hdi b (bG hb))).own' hO4 (fun b hb=>by simp;rintro rfl;exact a4 (bG hb)),hS.own hO4 (fun b hb=>?_),by simp[h.len,List.length_take],fun j e y he hy=>?_,hap,⟨h.few.1,h.few.2.1,?_⟩⟩,?_,hsub⟩
 ·simp;rintro rfl
  rcases hg b hb with h1|h1
  ·exact a5 (by simp[h1])
  ·have:=h.lt b (by unfold EW.feet;simp);omega
 ·have hmem: ∀(j:Nat) e y,(L.ds.take i++[d]++L.ds.drop i)[j]?=some e->(s.dev.take i++[x]++s.dev.drop i)[j]?=some y->(e=d/\y=x)\/ ∃k,L.ds[k]?=some e/\s.dev[k]?=some y:=fun j e y he hy=>by
   have hlt:(L.ds.take i).length=i:=by rw[List.length_take];omega
   have hls:(s.dev.take i).length=i:=by rw[List.length_take,h.len];omega
   rw[List.append_assoc,List.getElem?_append,hlt]at he;rw[List.append_assoc,List.getElem?_append,hls]at hy;by_cases hj:j<i
   ·rw[if_pos hj]at he hy
    rw[List.getElem?_take_of_lt hj]at he hy;exact .inr ⟨j,he,hy⟩
   ·rw[if_neg hj]at he hy
    rcases hk:j-i with _|k
    ·rw[hk]at he hy
     simp at he hy;exact .inl ⟨he.symm,hy.symm⟩
    ·rw[hk]at he hy
     simp only[List.singleton_append,List.getElem?_cons_succ,List.getElem?_drop]at he hy;exact .inr ⟨_,he,hy⟩
  rcases hmem j e y he hy with⟨rfl,rfl⟩|⟨k,q1,q2⟩
  ·exact(hD.own ho3 (afO _ (fun e1=>by have:=(h.dvs.block e1).2;omega)) (fun b hb=>by rw[hda]at hb;cases hb)).own hO4 (by have:=h.lt n (by unfold EW.feet;simp);simp;omega) (fun b hb=>by rw[hda]at hb;cases hb)
  ·have hm:e∈L.ds:=List.mem_of_getElem? q1
   have hin: ∀b,b∈iW e->b∉L.dv.ownBlock.toList/\b∉[n]:=fun b hb=>⟨hdd b (List.mem_flatMap.2 ⟨e,hm,hb⟩),by simp;rintro rfl;exact a6 (List.mem_flatMap.2 ⟨e,hm,hb⟩)⟩
   exact((h2.devs k e y q1 q2).own ho3 (hin _ (List.mem_cons_self ..)).1 (fun b hb=>(hin b (List.mem_cons_of_mem _ (bG hb))).1)).own hO4 (hin _ (List.mem_cons_self ..)).2 (fun b hb=>(hin b (List.mem_cons_of_mem _ (bG hb))).2)
 ·have:=h.len
  simp[List.length_take];omega
 ·refine(ho2.nil.trans (ho3.mono fun y hy=>hbase.symm.subset (List.mem_append_left _ hy))).trans (hO4.mono fun y hy=>?_)
  simp at hy;subst hy;unfold EW.feet;simp
theorem yw{W:World}{n:Nat}{g nm:ByteArray}{L:EW}{s:EN}(h:au W n g nm L s){i:Nat}{d:DW}(hi:L.ds[i]?=some d): ∃gb cp,L.dv=.slice (some ⟨gb,0,none⟩) L.ds.length cp/\W.cell? ⟨gb,i,none⟩=some (.pointer (some ⟨d.blk,0,none⟩)):=by
 rcases h.dvs.form with⟨h1,h2⟩|⟨gb,cp,h1,_,hR⟩
 ·rw[h2]at hi;simp at hi
 ·have:=hR.cell vC hi (show(iO d)[0]?=_ from rfl)
  exact⟨gb,cp,h1,by simpa using this⟩
theorem Fj{W:World}{n:Nat}{g nm:ByteArray}{L:EW}{s:EN}(h:au W n g nm L s)(dn:ByteArray)(a:Option Addr)(l:List bJ)(c:Nat)(hA:bB W a l)(UH: ∀b,a.map (·.block)=some b->b∉L.feet n):
  Calls Tryz.prog 262 #[.pointer (some ⟨L.tb,0,none⟩),.string dn,.slice a l.length c] W fun e w'=>(∃c,e=.returned (.int .i64 c))/\au w' n g nm L {s with al:=(pO s.al dn l).2}/\ai (L.feet n) W w'/\bB w' a l:=by
 refine(Ci L.tb L.tm s.al dn a l.length c (dU l) W h.tab (pR hA) (by have:=h.few.2.1;omega)).mono ?_;rintro e w' ⟨rfl,hT,hO⟩;rw[nE]at hT⊢;have hO2:ai (L.feet n) W w':=hO.mono (fun y hy=>by simp at hy;subst hy;unfold EW.feet;simp);exact⟨⟨_,rfl⟩,h.setTab (hO.mono (by simp)) hT (vE _ _ _ h.few.2.1),hO2,hA.own hO2 UH⟩
theorem Bt{W:World}{n:Nat}{g nm:ByteArray}{L:EW}{s:EN}(h:au W n g nm L s){i:Nat}{d:DW}{x:bS}(hi:L.ds[i]?=some d)(hx:s.dev[i]?=some x)(a:Option Addr)(l:List bJ)(c:Nat)(hA:bB W a l)(hl:l.length<=32):
  Calls Tryz.prog 310 #[.pointer (some ⟨d.blk,0,none⟩),.slice a l.length c] W fun e w'=>e=.returned (.int .i64 0)/\ ∃L',au w' n g nm L' {s with dev:=s.dev.set i ⟨x.name,true,l⟩}/\ai (L.feet n) W w'/\(∀y∈L'.feet n,y∈L.feet n\/W.heap.size<=y):=by
 refine(MQ d x a l c W (h.devs i d x hi hx) hA hl).mono ?_;rintro e w' ⟨rfl,d',hb,hP,hO,hf⟩;obtain⟨h1,h2⟩:=h.setDev (x':=⟨x.name,true,l⟩) hi hP hb hO hf;exact⟨rfl,_,h1,hO.mono (fun y hy=>by simp at hy;subst hy;exact(oP L n i hi).symm.subset (List.mem_cons_self ..)),h2⟩
theorem nH{n:Nat}{g nm:ByteArray}{L L1:EW}{s:EN}{w w1 w2:World}(ho:ai (L.feet n) w w1)(hf: ∀y∈L1.feet n,y∈L.feet n\/w.heap.size<=y)(h: ∃L',au w2 n g nm L' s/\ai (L1.feet n) w1 w2/\(∀y∈L'.feet n,y∈L1.feet n\/w1.heap.size<=y)):
  ∃L',au w2 n g nm L' s/\ai (L.feet n) w w2/\(∀y∈L'.feet n,y∈L.feet n\/w.heap.size<=y):=by
 obtain⟨L',h1,h2,h3⟩:=h;refine⟨L',h1,ho.trans' h2 hf,fun y hy=>?_⟩;rcases h3 y hy with h4|h4
 ·exact hf y h4
 ·exact .inr (Nat.le_trans ho.size h4)
theorem Rs(n:Nat)(g nm:ByteArray)(L:EW)(s:EN)(i:Nat)(d:DW)(x:bS)(dn:ByteArray)(a:Option Addr)(l:List bJ)(c:Nat)(w:World)(h:au w n g nm L s)(hi:L.ds[i]?=some d)(hx:s.dev[i]?=some x)(hA:bB w a l)(hl:l.length<=32)(UH: ∀b,a.map (·.block)=some b->b∉L.feet n):
  Calls Tryz.prog 272 #[.pointer (some ⟨n,0,none⟩),.int .i64 i,.bool true,.string dn,.slice a l.length c] w (dQ n g nm L (1,{s with al:=(pO s.al dn l).2,dev:=s.dev.set i ⟨x.name,true,l⟩}) w):=by
 have cS:=af (Fj h dn a l c hA UH);have hC:=af fun W s' (hk:au W n g nm L s')=>aR hk (S:=[]) (by simp) W (ai.refl _ _)
 have hD:=af fun W s' (hk:au W n g nm L s')=>yw hk hi
 have hB:=af fun W (s':EN) (hk:au W n g nm L s') hx hA=>Bt (i:=i) (d:=d) (x:=x) (a:=a) (l:=l) (c:=c) hk hi hx hA hl
 obtain⟨⟨k2,k3,k4,k5,k6,k7,k8⟩,_⟩:=hC.out w s h;obtain⟨gb,cp,hdv,_⟩:=hD.out w s h;have hx2:({s with al:=(pO s.al dn l).2}:EN).dev[i]?=some x:=hx;have hil:i<L.ds.length:=(List.getElem?_eq_some_iff.1 hi).1;have hi4:L.ds.length<=4:=by have:=h.few.2.2;rw[h.len]at this;exact this
 have hff: ∀y∈L.feet n,y∈L.feet n\/w.heap.size<=y:=fun y hy=>.inl hy
 change Hid _ at hx2 hdv hff;unfold dQ;clear h hA UH k2 k3 k4 k5 k6 hi hx;go_enter Tryz.func272,Tryz.ntmps272
 go_wp2_with(go_at_call 262;(with_reducible refine cS.out.mono ?_);rintro e w1 ⟨⟨c1,rfl⟩,hE1,aL,hA1⟩;obtain⟨⟨_,_,_,_,_,_,z8⟩,_⟩:=hC.out _ _ hE1;rw[hdv.out]at z8;obtain⟨gb1,cp1,AA,hcl⟩:=hD.out _ _ hE1;rw[hdv.out]at AA;cases AA;have cB:=af (hB.out _ _ hE1 hx2.out hA1);clear hA1;replace hE1:=af hE1;replace aL:=af aL)
 go_wp2_with(go_at_call 310;(with_reducible refine cB.out.mono ?_);rintro e w2 ⟨rfl,hx3⟩;replace hx3:=af hx3)
 go_ret
 exact⟨rfl,nH aL.out hff.out hx3.out⟩
theorem CR{α:Type}(l:List α)(i:Nat)(x y:α)(hi:i<=l.length):(l.take i++[x]++l.drop i).set i y=l.take i++[y]++l.drop i:=by
 have e:(l.take i).length=i:=by rw[List.length_take];omega
 rw[List.append_assoc,List.append_assoc,List.set_append_right _ _ (by omega),e,Nat.sub_self];rfl
theorem Wh(n:Nat)(g nm:ByteArray)(L:EW)(s:EN)(i:Nat)(dn:ByteArray)(a:Option Addr)(l:List bJ)(c:Nat)(w:World)(h:au w n g nm L s)(hi:i<=L.ds.length)(h3:L.ds.length<=3)(hdn:dn.toList.isEmpty=false)(hA:bB w a l)(hl:l.length<=32)
  (UH: ∀b,a.map (·.block)=some b->b∉L.feet n)(hal: ∀b,a.map (·.block)=some b->b<w.heap.size):
  Calls Tryz.prog 272 #[.pointer (some ⟨n,0,none⟩),.int .i64 i,.bool false,.string dn,.slice a l.length c] w (dQ n g nm L (1,{s with al:=(pO s.al dn l).2,dev:=s.dev.take i++[⟨dn,true,l⟩]++s.dev.drop i}) w):=by
 have cN:=af (Rc dn w hdn);have hlen:=h.len;have hln:n<w.heap.size:=aj h.row;obtain⟨da,dc,hdv⟩:=h.dvs.sl;have hC0: ∀W,ai [] w W->W.cell? ⟨n,8,none⟩=some (.slice da L.ds.length dc):=fun W ho=>by rw[<-hdv];exact(aR h (S:=[]) (by simp) W ho).1.2.2.2.2.2.2
 have hIn: ∀w1 b,ai [] w w1->Calls Tryz.prog 309 #[.slice da L.ds.length dc,.int .i64 i,.slice (some ⟨w1.heap.size,0,none⟩) 1 1] (w1.alloc (.cells #[.pointer (some ⟨b,0,none⟩)] 164)) (Ck (.slice da L.ds.length dc) (L.ds.take i++[⟨b,none,0,0⟩]++L.ds.drop i) (w1.alloc (.cells #[.pointer (some ⟨b,0,none⟩)] 164))):=fun w1 b ho=>by
  have:=VD L.dv L.ds ⟨b,none,0,0⟩ w1.heap.size i (w1.alloc (.cells #[.pointer (some ⟨b,0,none⟩)] 164)) (h.dvs.nil' (ho.alloc _)) (heap_alloc_new w1 _) (fun e=>by have h1:=(h.dvs.block e).2;have h2:=ho.size;omega) h3 hi;rw[hdv]at this;exact this
 have hcl:(L.ds.take i++[(⟨0,none,0,0⟩:DW)]++L.ds.drop i).length=L.ds.length+1:=by simp;omega
 have UI: ∀w1 w3 b v',ai [] w w1->fF w1 ⟨b,none,0,0⟩ ⟨dn,false,[]⟩->w.heap.size<=b->Sl 164 iO 1 0 w3 v' (L.ds.take i++[⟨b,none,0,0⟩]++L.ds.drop i)->ai (Value.slice da L.ds.length dc).ownBlock.toList (w1.alloc (.cells #[.pointer (some ⟨b,0,none⟩)] 164)) w3->
   (∀q,v'.ownBlock=some q->(Value.slice da L.ds.length dc).ownBlock=some q\/(w1.alloc (.cells #[.pointer (some ⟨b,0,none⟩)] 164)).heap.size<=q)->
   (w3.frozen? ⟨n,8,none⟩=false/\w3.cell? ⟨n,8,none⟩=some (.slice da L.ds.length dc)/\w3.cell? ⟨n,7,none⟩=some (.pointer (some ⟨L.tb,0,none⟩)))/\
   ∃L1,L1.tb=L.tb/\L1.ds=L.ds.take i++[⟨b,none,0,0⟩]++L.ds.drop i/\L1.dv=v'/\au (w3.setCell ⟨n,8,none⟩ v') n g nm L1 {s with dev:=s.dev.take i++[⟨dn,false,[]⟩]++s.dev.drop i}/\ai (L.feet n) w (w3.setCell ⟨n,8,none⟩ v')/\(∀y∈L1.feet n,y∈L.feet n\/w.heap.size<=y):=fun w1 w3 b v' ho hD hb hS ho3 hg=>by
  rw[<-hdv]at ho3 hg;have hA2:=ho.alloc (.cells #[.pointer (some ⟨b,0,none⟩)] 164);have hnn:n∉L.dv.ownBlock.toList:=by
   have:=h.apart;unfold EW.feet at this;simp only[List.nodup_cons,List.mem_cons,List.mem_append,not_or]at this;exact this.1.2.2.2.2.1
  have hrow:=ho3.heap (hA2.heap h.row (by simp)) hnn;obtain⟨q1,q2,q3⟩:=h.insDev (i:=i) (d:=⟨b,none,0,0⟩) (x:=⟨dn,false,[]⟩) hA2 (hD.nil' ((ai.refl _ _).alloc _)) rfl hb hS ho3 hg h3 hi;exact⟨⟨frozen_of_row _ _ _ _ _ hrow,by rw[<-hdv];exact cell_of_row _ _ 8 _ _ _ hrow,cell_of_row _ _ 7 _ _ _ hrow⟩,{L with dv:=v',ds:=L.ds.take i++[⟨b,none,0,0⟩]++L.ds.drop i},rfl,rfl,rfl,q1,q2,q3⟩
 have hS2: ∀W L1 s',au W n g nm L1 s'->ai (L.feet n) w W->(∀y∈L1.feet n,y∈L.feet n\/w.heap.size<=y)->Calls Tryz.prog 262 #[.pointer (some ⟨L1.tb,0,none⟩),.string dn,.slice a l.length c] W fun e w'=>(∃c,e=.returned (.int .i64 c))/\au w' n g nm L1 {s' with al:=(pO s'.al dn l).2}/\ai (L1.feet n) W w'/\bB w' a l:=fun W L1 s' hk ho hf=>
  Fj hk dn a l c (hA.own ho UH) (fun b hb hx=>by
   rcases hf b hx with h1|h1
   ·exact UH b hb h1
   ·have:=hal b hb;omega)
 have hC:=af fun W L1 s' (hk:au W n g nm L1 s')=>aR hk (S:=[]) (by simp) W (ai.refl _ _)
 have hD:=af fun W L1 s' d hi' (hk:au W n g nm L1 s')=>yw (i:=i) (d:=d) hk hi'
 have hB:=af fun W L1 (s':EN) d x hi' (hk:au W n g nm L1 s') hx hA=>Bt (i:=i) (d:=d) (x:=x) (a:=a) (l:=l) (c:=c) hk hi' hx hA hl
 have hfin: ∀w',(∃L',au w' n g nm L' {s with al:=(pO s.al dn l).2,dev:=(s.dev.take i++[(⟨dn,false,[]⟩:bS)]++s.dev.drop i).set i ⟨dn,true,l⟩}/\ai (L.feet n) w w'/\(∀y∈L'.feet n,y∈L.feet n\/w.heap.size<=y))-> ∃L',au w' n g nm L' {s with al:=(pO s.al dn l).2,dev:=s.dev.take i++[⟨dn,true,l⟩]++s.dev.drop i}/\ai (L.feet n) w w'/\(∀y∈L'.feet n,y∈L.feet n\/w.heap.size<=y):=fun w' hh=>by
  rw[CR _ _ _ _ (by omega)]at hh;exact hh
 have hgi: ∀b,(L.ds.take i++[(⟨b,none,0,0⟩:DW)]++L.ds.drop i)[i]?=some ⟨b,none,0,0⟩/\(L.ds.take i++[(⟨b,none,0,0⟩:DW)]++L.ds.drop i).length=L.ds.length+1:=fun b=>by
  have e:(L.ds.take i).length=i:=by rw[List.length_take];omega
  refine⟨?_,by simp;omega⟩;rw[List.append_assoc,List.getElem?_append_right (by omega),e,Nat.sub_self];rfl
 have hgx:(s.dev.take i++[(⟨dn,false,[]⟩:bS)]++s.dev.drop i)[i]?=some ⟨dn,false,[]⟩:=by
  have e:(s.dev.take i).length=i:=by rw[List.length_take];omega
  rw[List.append_assoc,List.getElem?_append_right (by omega),e,Nat.sub_self];rfl
 unfold dQ;change Hid _ at hC0 hIn UI hS2 hfin hgi hgx;have aiS:i<L.ds.length+1:=by omega
 clear h hA UH hal hdv hcl hlen hdn hl;go_enter Tryz.func272,Tryz.ntmps272
 go_wp2_with(first
  |(go_at_call 308;(with_reducible refine cN.out.mono ?_);rintro e w1 ⟨b,rfl,hD1,aL,hb1⟩;have k8:=hC0.out _ aL;have cI:=af (hIn.out w1 b aL);have hSt:=af (fun w3 v'=>UI.out w1 w3 b v' aL hD1 hb1);clear hD1 hb1;replace aL:=af aL)
  |(go_at_call 309;(with_reducible refine cI.out.mono ?_);rintro e w3 ⟨v3,rfl,uh,hO3,hg3⟩;obtain⟨va,vc,rfl⟩:=uh.sl;obtain⟨⟨f8,k83,k73⟩,L1,hL1,hL2,hL3,kH,hO4,Dy⟩:=hSt.out _ _ uh hO3 hg3;rw[(hgi.out b).2]at hL3 kH hO4⊢;have cS4:=hS2.out _ _ _ kH hO4 Dy;rw[hL1]at cS4;replace cS4:=af cS4;replace hL1:=af hL1;replace hL2:=af hL2;replace hL3:=af hL3;replace kH:=af kH;replace hO4:=af hO4;replace Dy:=af Dy;clear uh hO3 hg3))
 go_wp2_with(go_at_call 262;(with_reducible refine cS4.out.mono ?_);rintro e w5 ⟨⟨c1,rfl⟩,iZ,aF,Gq⟩;obtain⟨⟨_,_,_,_,_,_,z8⟩,_⟩:=hC.out _ _ _ iZ;rw[hL3.out]at z8;obtain⟨gb,cp,AA,aiT⟩:=hD.out _ _ _ _ (by rw[hL2.out];exact(hgi.out b).1) iZ;rw[hL3.out,hL2.out,(hgi.out b).2]at AA;cases AA;have cB:=af (hB.out _ _ _ _ _ (by rw[hL2.out];exact(hgi.out b).1) iZ hgx.out Gq);clear Gq;have OO:=af (hO4.out.trans' aF Dy.out);clear iZ aF)
 go_wp2_with(go_at_call 310;(with_reducible refine cB.out.mono ?_);rintro e w6 ⟨rfl,hx3⟩;replace hx3:=af hx3)
 go_ret
 exact⟨rfl,hfin.out _ (nH OO.out Dy.out hx3.out)⟩
theorem Ri{α:Type}{key:α->ByteArray}{r:List α}(hr:dP key r){n:ByteArray}{k:Nat}{p:α}(hk:r[k]?=some p):aU (key p) n=true↔k<cu key r n:=by
 constructor
 ·intro h
  rcases Nat.lt_or_ge k (cu key r n)with h1|h1
  ·exact h1
  ·exfalso
   have hl:cu key r n<r.length:=Nat.lt_of_le_of_lt h1 (List.getElem?_eq_some_iff.1 hk).1;have h2:=CJ (key:=key) (r:=r) (n:=n) (List.getElem?_eq_getElem hl);rcases Nat.lt_or_ge (cu key r n) k with h3|h3
   ·have h4:=List.pairwise_iff_getElem.1 hr (cu key r n) k hl (List.getElem?_eq_some_iff.1 hk).1 h3
    rw[(List.getElem?_eq_some_iff.1 hk).2]at h4;rw[kr h4 h]at h2;cases h2
   ·have:k=cu key r n:=by omega
    subst this;rw[(List.getElem?_eq_some_iff.1 hk).2,h]at h2;cases h2
 ·intro h
  obtain⟨q,h1,h2⟩:=V7 h;rw[h1]at hk;cases hk;exact h2
theorem V8(s:ByteArray)(w:World):Calls Tryz.prog 65 #[.string s] w fun e w'=>e=.returned (.bool false)/\w=w':=by
 have hs:(s==s)=true:=by simp
 have hs2:(s.toList==s.toList)=true:=by simp
 go_enter Tryz.func65,Tryz.ntmps65
 go_wp2_with fail
 go_ret
 exact⟨by simp,rfl⟩
theorem zA(s t:ByteArray)(w:World):Calls Tryz.prog 29 #[.string s,.string t] w fun e w'=>e=.returned (.int .i64 (mV s t))/\w=w':=by
 have N:=af (fun x W=>V8 x W);unfold mV;have h0:aU s t=true->aU t s=false:=DF;have h1:aU s t=false->aU t s=false->(s.toList==t.toList)=true:=fun h1 h2=>by rw[ni h1 h2];simp
 have h2:aU t s=true->(s.toList==t.toList)=false:=fun h=>by
  cases hb:s.toList==t.toList with
  |false=>rfl
  |true=>
   have:=dA (by simpa using hb:s.toList=t.toList);subst this;rw[iG]at h;cases h
 cases hs:aU s t
 ·cases ht:aU t s
  ·have h3:=h1 hs ht
   unfold aU at hs;rw[h3];clear h0 h1 h2 ht;go_enter Tryz.func29,Tryz.ntmps29
   go_wp2_with(go_at_call 65;(with_reducible refine(N.out _ _).mono ?_);rintro e w1 ⟨rfl,rfl⟩)
   go_ret
   exact⟨by simp,rfl⟩
  ·have h3:=h2 ht
   unfold aU at hs;rw[h3];clear h0 h1 h2 ht;go_enter Tryz.func29,Tryz.ntmps29
   go_wp2_with(go_at_call 65;(with_reducible refine(N.out _ _).mono ?_);rintro e w1 ⟨rfl,rfl⟩)
   go_ret
   exact⟨by simp,rfl⟩
 ·unfold aU at hs
  clear h0 h1 h2;go_enter Tryz.func29,Tryz.ntmps29
  go_wp2_with(go_at_call 65;(with_reducible refine(N.out _ _).mono ?_);rintro e w1 ⟨rfl,rfl⟩)
  go_ret
  exact⟨by simp,rfl⟩
theorem IU(a:ByteArray)(b:Bool)(c:Option Addr)(l k:Nat)(w:World):(Instr.field 46 (.agg #[.string a,.bool b,.slice c l k]) 0).run Tryz.prog w=.ok (.string a) w:=by kernel_rfl
theorem Bp(d:DW)(x:bS)(nm:ByteArray)(w:World)(h:fF w d x):Calls Tryz.prog 307 #[.pointer (some ⟨d.blk,0,none⟩),.string nm] w fun e w'=>e=.returned (.int .i64 (mV x.name nm))/\ai [] w w':=by
 have V:=af (wK d x w h);have C:=af (fun W=>zA x.name nm W);have hf:=IU;clear h;go_enter Tryz.func307,Tryz.ntmps307
 go_wp2_with(first
  |(go_at_call 62;(with_reducible refine V.out.mono ?_);rintro e w1 ⟨a,cap,rfl,_,hO⟩;replace hO:=af hO)
  |(go_at_call 29;(with_reducible refine(C.out _).mono ?_);rintro e w2 ⟨rfl,rfl⟩))
 go_ret
 exact⟨rfl,hO.out⟩
theorem E5(n:Nat)(g nm:ByteArray)(L:EW)(s:EN)(dn:ByteArray)(w:World)(h:au w n g nm L s)(hr:dP bS.name s.dev):
  Calls Tryz.prog 306 #[L.dv,.string dn,(.func (.func 307) #[] #[])] w fun e w'=>e=.returned (.tuple #[.int .i64 (cu bS.name s.dev dn),.bool (jH bS.name s.dev dn)])/\ai [] w w':=by
 obtain⟨da,dc,hdv⟩:=h.dvs.sl;have hlen:=h.len;have hl4:=h.few.2.2;have hpl:=CG (key:=bS.name) s.dev dn;rw[hdv];obtain⟨pos,hpos⟩: ∃pos,cu bS.name s.dev dn=pos:=⟨_,rfl⟩;have hiff: ∀k (hk:k<s.dev.length),aU (s.dev[k]).name dn=true↔k<pos:=fun k hk=>by rw[<-hpos];exact Ri hr (List.getElem?_eq_getElem hk)
 have hhas: ∀hk:pos<s.dev.length,jH bS.name s.dev dn=((s.dev[pos]).name.toList==dn.toList):=fun hk=>by
  unfold jH;rw[hpos,List.getElem?_eq_getElem hk]
 have hno:s.dev.length<=pos->jH bS.name s.dev dn=false:=fun hk=>by
  unfold jH;rw[hpos,List.getElem?_eq_none hk]
 have hfin: ∀k,(hk:k<s.dev.length)->k=pos->(mV (s.dev[k]).name dn=0↔jH bS.name s.dev dn=true):=fun k hk e=>by
  subst e;rw[hhas hk];have h1:aU (s.dev[k]).name dn=false:=by
   cases hb:aU (s.dev[k]).name dn with
   |false=>rfl
   |true=>exact absurd ((hiff k hk).1 hb) (Nat.lt_irrefl _)
  unfold mV;rw[h1];simp
 have hC: ∀W k,ai [] w W->k<L.ds.length-> ∃gb d x,da=some ⟨gb,0,none⟩/\W.cell? ⟨gb,k,none⟩=some (.pointer (some ⟨DW.blk d,0,none⟩))/\fF W d x/\(aU x.name dn=true↔k<pos)/\(k=pos->(mV x.name dn=0↔jH bS.name s.dev dn=true)):=fun W k ho hk=>by
  have hE:=h.nil' ho;have hk2:k<s.dev.length:=by omega
  rcases hE.dvs.form with⟨h1,h2⟩|⟨gb,cp,h1,_,hR⟩
  ·rw[h2]at hk;simp at hk
  ·rw[hdv]at h1
   cases h1;have:=hR.cell vC (List.getElem?_eq_getElem hk) (show(iO L.ds[k])[0]?=_ from rfl);exact⟨gb,L.ds[k],s.dev[k],rfl,by simpa using this,hE.devs k _ _ (List.getElem?_eq_getElem hk) (List.getElem?_eq_getElem hk2),hiff k hk2,hfin k hk2⟩
 have Yj:pos<s.dev.length\/jH bS.name s.dev dn=false:=by
  rcases Nat.lt_or_ge pos s.dev.length with h1|h1
  ·exact .inl h1
  ·exact .inr (hno h1)
 clear hiff hfin hno hhas;rw[hpos]at hpl⊢;rw[hlen]at Yj hpl hl4;change Hid _ at hdv hlen;generalize jH bS.name s.dev dn=has at*;clear hdv hlen hpos h hr;generalize L.ds.length=N at*;change Hid _ at hC Yj;go_enter Tryz.func306,Tryz.ntmps306
 go_wp2_with fail
 go_loopg[9,10] N (fun m s9 s10 wr=> ∃i j:Nat,i<=pos/\pos<=j/\j<=N/\m=j-i/\s9=.int .i64 i/\s10=.int .i64 j/\Aside (ai [] w wr))
 case atStart=>exact⟨0,N,by omega,hpl,by omega,by omega,rfl,rfl,ai.refl _ _⟩
 case round=>
  obtain⟨i,j,hi,hj,hjN,rfl,rfl,rfl,hO⟩:=hrel;by_cases hlt:i<j
  ·obtain⟨gb,d,x,rfl,hcell,OP,hif,_⟩:=hC.out wr ((i+j)/2) hO (by omega)
   have cF:=Bp d x dn wr OP;generalize d.blk=db at*;have e1:(i+j)/2<N:=by omega
   have e2:(((i:Int)+j)/2).toNat=(i+j)/2:=by omega
   clear OP;by_cases hb:(i+j)/2<pos
   ·have hsc:mV x.name dn= -1:=by unfold mV;rw[if_pos (hif.2 hb)]
    rw[hsc]at cF;replace cF:=af cF;clear hif hsc;go_wp2_with(go_at_call 307;(with_reducible refine cF.out.mono ?_);rintro e w1 ⟨rfl,aL⟩;replace aL:=af (hO.trans aL))
    go_roundg(j-((i+j)/2+1))
    case rel=>exact⟨(i+j)/2+1,j,by omega,hj,hjN,rfl,congrArg (Value.int .i64) (by omega),rfl,aL.out⟩
    case measure=>omega
   ·obtain⟨c,hsc,hc⟩: ∃c,mV x.name dn=c/\0<=c:=by
     refine⟨_,rfl,?_⟩;unfold mV;rw[if_neg (fun h=>hb (hif.1 h))];split<;>decide
    rw[hsc]at cF;replace cF:=af cF;have hcb:decide (c<0)=false:=by simp;omega
    clear hif hsc;go_wp2_with(go_at_call 307;(with_reducible refine cF.out.mono ?_);rintro e w1 ⟨rfl,aL⟩;replace aL:=af (hO.trans aL))
    go_roundg((i+j)/2-i)
    case rel=>exact⟨i,(i+j)/2,hi,by omega,by omega,rfl,rfl,congrArg (Value.int .i64) (by omega),aL.out⟩
    case measure=>omega
  ·obtain rfl:i=pos:=by omega
   by_cases hip:i<N
   ·obtain⟨gb,d,x,rfl,hcell,OP,_,hif⟩:=hC.out wr i hO hip
    have cF:=Bp d x dn wr OP;generalize d.blk=db at*;replace hif:=hif rfl;cases has
    ·obtain⟨c,hsc,hc⟩: ∃c,mV x.name dn=c/\(c==0)=false:=⟨_,rfl,by simpa using hif⟩
     rw[hsc]at cF;replace cF:=af cF;clear hif hsc OP;go_wp2_with(go_at_call 307;(with_reducible refine cF.out.mono ?_);rintro e w1 ⟨rfl,aL⟩;replace aL:=af (hO.trans aL))
     go_ret2
     exact⟨rfl,aL.out⟩
    ·rw[hif.2 rfl]at cF
     replace cF:=af cF;clear hif OP;go_wp2_with(go_at_call 307;(with_reducible refine cF.out.mono ?_);rintro e w1 ⟨rfl,aL⟩;replace aL:=af (hO.trans aL))
     go_ret2
     exact⟨rfl,aL.out⟩
   ·obtain rfl:has=false:=by rcases Yj.out with h1|h1;omega;exact h1
    go_wp2_with fail
    go_ret2
    exact⟨rfl,hO⟩
theorem Bq(n:Nat)(g nm:ByteArray)(L:EW)(s:EN)(dn:ByteArray)(w:World)(h:au w n g nm L s)(hr:dP bS.name s.dev):
  Calls Tryz.prog 270 #[.pointer (some ⟨n,0,none⟩),.string dn] w fun e w'=>e=.returned (.tuple #[.int .i64 (cu bS.name s.dev dn),.bool (jH bS.name s.dev dn)])/\ai [] w w':=by
 have B:=E5 n g nm L s dn w h hr;obtain⟨⟨k2,k3,k4,k5,k6,k7,k8⟩,_⟩:=aR h (S:=[]) (by simp) _ (ai.refl _ _);obtain⟨da,dc,hdv⟩:=h.dvs.sl;rw[hdv]at B k8;generalize cu bS.name s.dev dn=pos at*;generalize jH bS.name s.dev dn=has at*;replace B:=af B;clear h hr hdv k2 k3 k4 k5 k6 k7;go_enter Tryz.func270,Tryz.ntmps270
 go_wp2_with(go_at_call 306;(with_reducible refine B.out.mono ?_);rintro e w1 ⟨rfl,hO⟩;replace hO:=af hO)
 go_ret2
 exact⟨rfl,hO.out⟩
end Go.Proofs.YtedcakchekaemaaGreatDoor
