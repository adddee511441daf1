import Derived.Test.YtedcakchekaemaaGreatDoorMn12
import Derived.Test.YtedcakchekaemaaGreatDoorMn13
import Derived.Shelf.Spec.SlicesInsertGrow
import Derived.Test.YtedcakchekaemaaGreatDoorMn11
set_option maxRecDepth 100000
set_option maxHeartbeats 16000000
set_option linter.all false
namespace Go.Proofs.YtedcakchekaemaaGreatDoor
open Go.RowKit Go.Shelf Go.Lib
theorem dA{b:Nat}{T:TypeId}: ∀(vs:List Value) (o:Nat) (w:World) (cur:Array Value),w.heap[b]?=some (.cells cur T (0,0))->o+vs.length<=cur.size->
  ∃cur',(w.setCells b o vs).heap[b]?=some (.cells cur' T (0,0))/\cur'.size=cur.size/\cur'.toList=cur.toList.take o++vs++cur.toList.drop (o+vs.length)
 | [],o,w,cur,h,_=>⟨cur,h,rfl,by simp⟩
 |v::r,o,w,cur,h,hl=>by
  simp only[List.length_cons]at hl;obtain⟨cur',h1,h2,h3⟩:=dA r (o+1) (w.setCell ⟨b,o,none⟩ v) _ (heap_setCell_same _ _ o _ _ v h) (by simpa using by omega);refine⟨cur',by rw[World.setCells];exact h1,by simpa using h2,?_⟩;rw[h3];have ho:o<cur.toList.length:=by simp;omega
  have e1:(cur.setIfInBounds o v).toList=cur.toList.set o v:=by simp
  rw[e1,List.take_set,List.drop_set_of_lt (by omega),List.take_succ_eq_append_getElem ho,List.set_append_right _ _ (by simp;omega)];simp only[List.length_take,List.length_cons];have e2:o-min o cur.toList.length=0:=by omega
  rw[e2];have e3:o+1+r.length=o+(r.length+1):=by omega
  rw[e3];simp
theorem dB{S:List Nat}{b:Nat}(hb:b∈S): ∀(vs:List Value) (o:Nat) {w w':World},ai S w w'->ai S w (w'.setCells b o vs)
 | [],_,_,_,h=>h
 |v::r,o,w,w',h=>by
  rw[World.setCells];exact dB hb r (o+1) (h.setCell (.inl hb) v)
theorem IJ:(Tryz.prog.info? 164).map (fun i=>(i.zero,i.size,i.bytes))=some (some (.pointer none),1,8):=by kernel_rfl
theorem NW:je Tryz.prog 157 164 gZ 1 8 where
 ut:=Tryz.underlying157
 info:=by obtain⟨i,h1,h2,h3,h4⟩:=info_parts IJ;exact⟨i,_,h1,h2,h3,h4,rfl⟩
 pos:=by omega
 len:=sZ
 one x u hu:=by simp[gZ]at hu;subst hu;rfl
def IK(w:World):World:={w with heap:=#[]}
theorem zK(w:World):ai [] (IK w) w:=⟨rfl,rfl,rfl,Nat.zero_le _,fun k hk=>absurd hk (by simp[IK])⟩
def AL(dv:Value)(l:List DW)(w:World)(e:Ending)(w':World):Prop:=
 ∃v',e=.returned v'/\Sl 164 gZ 1 0 w' v' l/\ai dv.ownBlock.toList w w'/\(∀g,v'.ownBlock=some g->dv.ownBlock=some g\/w.heap.size<=g)
theorem RI(dv:Value)(ds:List DW)(d:DW)(vb:Nat)(w:World)(h:Sl 164 gZ 1 0 w dv ds)(hv:w.heap[vb]?=some (.cells #[.pointer (some ⟨d.blk,0,none⟩)] 164 (0,0)))(hl:ds.length<=3):
  Calls Tryz.prog 309 #[dv,.int .i64 ds.length,.slice (some ⟨vb,0,none⟩) 1 1] w (AL dv (ds++[d]) w):=by
 have hR:aA gZ w (.slice (some ⟨vb,0,none⟩) 1 1) [d]:=.inr ⟨vb,0,1,rfl,fun j u hu=>by
  rw[Nat.zero_add,cell_of_row w vb j _ _ _ hv];simpa[aC,gZ]using hu⟩
 obtain⟨v1,hsl,_,_⟩:=h.drop NW (Nat.le_refl ds.length);obtain⟨sa,sc,rfl⟩:=h.sl;have hB:=af (zK w);have hS:Sl 164 gZ 1 (IK w).heap.size w (.slice sa ds.length sc) ds:=h;change Hid _ at hS hR;have hl1:=af (show(ds.length+[d].length)*8<=140737488355328 by simp;omega);have hl2:=af (show ds.length+[d].length<=maxLen by unfold maxLen;simp;omega);clear h hv;go_enter Tryz.func309,Tryz.ntmps309
 go_wp2_with(at_builtin;refine aO rfl (.tmp 23) (.tmp 24) rfl NW hB.out rfl hS.out rfl hR.out hl1.out hl2.out ?_;intro v5 w5 hS5 _ _ hg5 gW;replace hS5:=af hS5;replace hg5:=af hg5;replace gW:=af gW)
 go_ret
 exact⟨v5,rfl,hS5.out,gW.out,hg5.out⟩
theorem oH(l:List DW):aC gZ l=l.map fun d=>.pointer (some ⟨d.blk,0,none⟩):=by
 unfold aC;induction l with
 |nil=>rfl
 |cons x r ih=>rw[List.flatMap_cons,ih];rfl
theorem Ke(g n c i vb:Nat)(cs:List Value)(u:Value)(w:World)(hi:i<n)(hroom:n+1<=c)(Rb:n<=3)(hc63:c<=9223372036854775807)(hvb:vb≠g)
  (cur:Array Value)(hg:w.heap[g]?=some (.cells cur 164 (0,0)))(hcz:cur.size=c)(hcl:cs.length=n)(hct:cur.toList.take n=cs)(h1c: ∀v∈cs,v.oneCell'=true)(Jq:u.oneCell'=true)
  (hv:w.heap[vb]?=some (.cells #[u] 164 (0,0))):
  Calls Tryz.prog 309 #[.slice (some ⟨g,0,none⟩) n c,.int .i64 i,.slice (some ⟨vb,0,none⟩) 1 1] w fun e w'=>
   e=.returned (.slice (some ⟨g,0,none⟩) (n+1) c)/\w'=(w.drew.setCells g (i+1) (cs.drop i)).setCells g i [u]:=by
 have hcell: ∀j v,cs[j]?=some v->w.cell? ⟨g,j,none⟩=some v:=fun j v hj=>by
  rw[cell_of_row w g j _ _ _ hg];rw[<-hct,List.getElem?_take]at hj;split at hj
  ·simpa using hj
  ·cases hj
 have hsp: ∀j,j<n+1->(w.cell? ⟨g,j,none⟩).isSome=true:=fun j hj=>by
  rw[cell_of_row w g j _ _ _ hg,Array.getElem?_eq_getElem (by omega)];rfl
 have hfz: ∀j,w.frozen? ⟨g,j,none⟩=false:=fun j=>frozen_of_row w g j _ _ hg
 have YZ: ∀j v,[u][j]?=some v->w.cell? ⟨vb,j,none⟩=some v:=fun j v hj=>by
  rw[cell_of_row w vb j _ _ _ hv];simpa using hj
 have hsz:(Tryz.prog.info? 164).map (·.size)=some 1:=by kernel_rfl
 have hsa:w.shape? vb=some (164,1):=by simp[World.shape?,hv]
 have hsb:w.shape? g=some (164,cur.size):=by simp[World.shape?,hg]
 have hz3: ∀w,(Go.sizeOf 164).run Tryz.prog w=.ok 1 w:=fun w=>by kernel_rfl
 have hov: ∀lb cb,(callFunc 330 #[.slice (some ⟨vb,0,none⟩) 1 1,.slice (some ⟨g,i+1,none⟩) lb cb]).run Tryz.prog w=.ok (.value (.bool false)) w:=fun lb cb=>by
  rw[run_callFunc_extern Tryz.func330 (by kernel_rfl) (by kernel_rfl) (by kernel_rfl) (e:=Extern.SlicesOverlaps.overlaps #[157,157] #[4]) (by kernel_rfl),
   Lib.run_overlaps_apart w 157 4 164 Tryz.underlying157 1 hz3 ⟨vb,0,none⟩ ⟨g,i+1,none⟩ 1 1 lb cb hvb 164 164 1 cur.size hsa hsb (by omega) (frozen_of_row w vb 0 _ _ hv) (frozen_of_row w vb 1 _ _ hv)]
  rfl
 have hdl:(cs.drop i).length=n-i:=by rw[List.length_drop,hcl]
 have hz2: ¬((i:Int)=(n:Int)):=by omega
 have hw1:IntKind.i64.wrap ((i:Int)+1)=(i:Int)+1:=by rw[IntKind.wrap_i64];omega
 have hb1:(0:Int)<=(i:Int)+1:=by omega
 have htn:((i:Int)+1).toNat=i+1:=by omega
 have hb2: ¬(c=i+1):=by omega
 have hb3:(i:Int)<=(n:Int)+1:=by omega
 have hb4: ¬(c=i):=by omega
 have hin:i<=n:=by omega
 have hcp1: ∀ty dc sc,(Builtin.copy_ #[157,157] ty #[.slice (some ⟨g,i+1,none⟩) (n-i) dc,.slice (some ⟨g,i,none⟩) (n+1-i) sc]).run Tryz.prog w.drew=.ok (goInt (cs.drop i).length) (w.drew.setCells g (i+1) (cs.drop i)):=fun ty dc sc=>
  run_copy_cells w.drew _ _ ty 164 g (i+1) (n-i) dc ⟨g,i,none⟩ (n+1-i) sc (cs.drop i) Tryz.underlying157 hsz (by rw[hdl];simp only[Nat.min_def];split<;>omega)
   (fun j v hj=>by rw[Addr.add_lit];exact hcell (i+j) v (by rwa[List.getElem?_drop]at hj))
   (fun j hj=>hsp _ (by omega)) (fun j hj=>hfz _) (fun v hv=>h1c v (List.mem_of_mem_drop hv))
 obtain⟨W1,hW1⟩: ∃W1,W1=w.drew.setCells g (i+1) (cs.drop i):=⟨_,rfl⟩;have hsp1: ∀k,k<n+1->(W1.cell? ⟨g,k,none⟩).isSome=true:=fun k hk=>by
  rw[hW1];exact isSome_setCells g (cs.drop i) (i+1) w.drew (fun j hj=>hsp _ (by rw[hdl]at hj;omega)) k (hsp k hk)
 have hcp2: ∀(W:World),(∀x,W.cell? x=W1.cell? x)->(∀x,W.frozen? x=W1.frozen? x)-> ∀ty dc,(Builtin.copy_ #[157,157] ty #[.slice (some ⟨g,i,none⟩) (n+1-i) dc,.slice (some ⟨vb,0,none⟩) 1 1]).run Tryz.prog W=.ok (goInt [u].length) (W.setCells g i [u]):=fun W hWc hWf ty dc=>
  run_copy_cells W _ _ ty 164 g i (n+1-i) dc ⟨vb,0,none⟩ 1 1 [u] Tryz.underlying157 hsz (by simp only[List.length_singleton,Nat.min_def];split<;>omega)
   (fun j v hj=>by
    rw[Addr.add_lit,hWc,hW1,World.cell?_setCells_out g _ _ _ _ (fun h _=>absurd h hvb),Nat.zero_add];exact YZ j v hj)
   (fun j hj=>by rw[hWc];exact hsp1 _ (by simp at hj;omega)) (fun j hj=>by rw[hWf,hW1,World.frozen?_setCells];exact hfz _) (by simpa using Jq)
 rw[<-hW1]at hcp1;clear hcell hsp hfz YZ hsa hsb hz3 hsz hdl hsp1 hg hv hct hcl h1c Jq;go_enter Tryz.func309,Tryz.ntmps309
 go_wp2_with(simp only[hov])
 go_region_law(refine step_copy_runI rfl _ _ 157 157 rfl _ _ (by simp[Act.eval,Act.put]) (by simp[Act.eval,Act.put]) (hcp1 _ _ _) ?_)
 go_wp2_with(at_builtin;refine wpList_copy_runI _ rfl _ _ 157 157 rfl _ _ rfl rfl (hcp2 _ (fun _=>rfl) (fun _=>rfl) _ _) ?_)
 go_ret
 first|exact⟨rfl,rfl⟩|exact⟨rfl,by rw[hW1]⟩
theorem NY(g n c i vb:Nat)(cs:List Value)(u:Value)(w:World)(hi:i<n)(hnc:n<=c)(hroom:c<n+1)(Rb:n<=3)
  (cur:Array Value)(hg:w.heap[g]?=some (.cells cur 164 (0,0)))(hcl:cs.length=n)(hct:cur.toList.take n=cs)(h1c: ∀v∈cs,v.oneCell'=true)(Jq:u.oneCell'=true)
  (hv:w.heap[vb]?=some (.cells #[u] 164 (0,0))):
  Calls Tryz.prog 309 #[.slice (some ⟨g,0,none⟩) n c,.int .i64 i,.slice (some ⟨vb,0,none⟩) 1 1] w fun e w'=> ∃(G:Nat) (ROW:Array Value),n+1<=G/\G<=maxLen/\ROW.size=G/\ROW.toList.take i=cs.take i/\
   e=.returned (.slice (some ⟨w.heap.size,0,none⟩) (n+1) G)/\w'=(((w.alloc (.cells ROW 164)).drew.setCells w.heap.size i [u]).drew).setCells w.heap.size (i+1) (cs.drop i):=by
 have hcs: ∀j v,cs[j]?=some v->w.cell? ⟨g,j,none⟩=some v:=fun j v hj=>by
  rw[cell_of_row w g j _ _ _ hg];rw[<-hct,List.getElem?_take]at hj;split at hj
  ·simpa using hj
  ·cases hj
 have hvs: ∀j v,[u][j]?=some v->w.cell? ⟨vb,j,none⟩=some v:=fun j v hj=>by
  rw[cell_of_row w vb j _ _ _ hv];simpa using hj
 obtain⟨i0,hi0,hz0,hzs,hzb⟩:=info_parts IJ;have hz2: ¬((i:Int)=(n:Int)):=by omega
 have hz3:(c:Int)<(n:Int)+1:=by omega
 have hsz:(Tryz.prog.info? 164).map (·.size)=some 1:=by rw[hi0];simp[hzs]
 have hbw:g<w.heap.size:=aj hg;have hvw:vb<w.heap.size:=aj hv;have hkk:(n:Int)+1-(i:Int)=((n+1-i:Nat):Int):=by omega
 have hik:i+(n+1-i)=n+1:=by omega
 have hold:(Builtin.firstCells i0.size i (.slice (some ⟨g,0,none⟩) i c)).run Tryz.prog w.drew=.ok (cs.take i).toArray w.drew:=by
  rw[hzs];exact run_firstCells_some w.drew 1 i ⟨g,0,none⟩ i c (cs.take i) (by rw[List.length_take];omega) (fun j v hj=>by
   rw[Addr.add_lit,Nat.zero_add];rw[List.getElem?_take]at hj;split at hj
   ·exact hcs j v hj
   ·cases hj)
 have hrz: ∀ty,(Builtin.append_ #[157,3] ty #[.slice (some ⟨g,0,none⟩) i c,.int .i64 ((n:Int)+1-(i:Int))]).run Tryz.prog w=
   .ok (.slice (some ⟨w.heap.size,0,none⟩) (n+1) (grownCap w (n+1) c 164)) (w.drew.alloc (.cells ((cs.take i).toArray++Builtin.zeroCells (Value.pointer none).cells (n+1-i)++Builtin.zeroCells (Value.pointer none).cells (grownCap w (n+1) c 164-(n+1))) 164)):=fun ty=>by
  have h:=Lib.run_append_grow_zeros w 157 3 ty 164 i0 _ .i64 .i64 Tryz.underlying157 Tryz.underlying3 hi0 hz0 (some ⟨g,0,none⟩) i c (cs.take i) hold (n+1-i) (by omega) (by omega) (by omega) (by omega) (by rw[hzb];omega) (by rw[hzb,hik];exact growslice_fits hroom (by omega));rw[hik]at h;rw[hkk];exact h
 obtain⟨G,hG⟩: ∃G,G=grownCap w (n+1) c 164:=⟨_,rfl⟩;obtain⟨ROW,hROW⟩: ∃ROW:Array Value,ROW=(cs.take i).toArray++Builtin.zeroCells (Value.pointer none).cells (n+1-i)++Builtin.zeroCells (Value.pointer none).cells (G-(n+1)):=⟨_,rfl⟩;rw[<-hG,<-hROW]at hrz;have hGn:n+1<=G:=by rw[hG];exact grownCap_ge w _ _ _
 have QE:G<=maxLen:=by rw[hG];exact grownCap_le_maxLen w (n+1) c 164 (by unfold maxLen;omega)
 have hRs:ROW.size=G:=by
  rw[hROW];simp[Builtin.zeroCells,Value.cells];omega
 have Et:ROW.toList.take i=cs.take i:=by
  rw[hROW];simp only[Array.toList_append,List.append_assoc];have e:(cs.take i).length=i:=by rw[List.length_take];omega
  rw[List.take_append_of_le_length (Nat.le_of_eq e.symm)];show List.take i (cs.take i)=cs.take i;rw[List.take_take,Nat.min_self]
 obtain⟨W1,hW1⟩: ∃W1,W1=w.drew.alloc (.cells ROW 164):=⟨_,rfl⟩;rw[<-hW1]at hrz;have hN: ∀j,j<n+1->(W1.cell? ⟨w.heap.size,j,none⟩).isSome=true:=fun j hj=>by
  rw[hW1,World.cell?_alloc_at (w:=w.drew) ROW _ w.heap.size j rfl,Array.getElem?_eq_getElem (by omega)];rfl
 have hNf: ∀j,W1.frozen? ⟨w.heap.size,j,none⟩=false:=fun j=>by rw[hW1];exact World.frozen?_alloc_at (w:=w.drew) ROW _ w.heap.size j rfl
 have hOb: ∀j v,w.cell? ⟨g,j,none⟩=some v->W1.cell? ⟨g,j,none⟩=some v:=fun j v h=>by rw[hW1,World.cell?_alloc_past (w:=w.drew) _ g j hbw];exact h
 have hOv: ∀j v,w.cell? ⟨vb,j,none⟩=some v->W1.cell? ⟨vb,j,none⟩=some v:=fun j v h=>by rw[hW1,World.cell?_alloc_past (w:=w.drew) _ vb j hvw];exact h
 have hcpA: ∀(W:World),(∀x,W.cell? x=W1.cell? x)->(∀x,W.frozen? x=W1.frozen? x)-> ∀ty dc,(Builtin.copy_ #[157,157] ty #[.slice (some ⟨w.heap.size,i,none⟩) (n+1-i) dc,.slice (some ⟨vb,0,none⟩) 1 1]).run Tryz.prog W=.ok (goInt [u].length) (W.setCells w.heap.size i [u]):=fun W hWc hWf ty dc=>
  run_copy_cells W _ _ ty 164 w.heap.size i (n+1-i) dc ⟨vb,0,none⟩ 1 1 [u] Tryz.underlying157 hsz (by simp only[List.length_singleton,Nat.min_def];split<;>omega)
   (fun j v hj=>by rw[Addr.add_lit,hWc,Nat.zero_add];exact hOv _ v (hvs j v hj))
   (fun j hj=>by rw[hWc];exact hN _ (by simp at hj;omega)) (fun j hj=>by rw[hWf];exact hNf _) (by simpa using Jq)
 have hG63:G<=9223372036854775807:=by unfold maxLen at QE;omega
 have hGi: ¬(G=i):=by omega
 have hGim: ¬(G=i+1):=by omega
 have hci: ¬(c=i):=by omega
 have hbN:g≠w.heap.size:=by omega
 have hdl:(cs.drop i).length=n-i:=by rw[List.length_drop,hcl]
 have hcpB: ∀(W:World),(∀x,W.cell? x=(W1.setCells w.heap.size i [u]).cell? x)->(∀x,W.frozen? x=(W1.setCells w.heap.size i [u]).frozen? x)-> ∀ty dc sc,(Builtin.copy_ #[157,157] ty #[.slice (some ⟨w.heap.size,i+1,none⟩) (n-i) dc,.slice (some ⟨g,i,none⟩) (n-i) sc]).run Tryz.prog W=.ok (goInt (cs.drop i).length) (W.setCells w.heap.size (i+1) (cs.drop i)):=fun W hWc hWf ty dc sc=>
  run_copy_cells W _ _ ty 164 w.heap.size (i+1) (n-i) dc ⟨g,i,none⟩ (n-i) sc (cs.drop i) Tryz.underlying157 hsz (by rw[hdl];simp only[Nat.min_def];split<;>omega)
   (fun j v hj=>by
    rw[Addr.add_lit,hWc,World.cell?_setCells_out _ _ _ _ _ (fun h _=>absurd h hbN)];exact hOb _ v (hcs (i+j) v (by rwa[List.getElem?_drop]at hj)))
   (fun j hj=>by rw[hWc];exact isSome_setCells w.heap.size [u] i W1 (fun t ht=>hN _ (by simp at ht;omega)) _ (hN _ (by omega)))
   (fun j hj=>by rw[hWf,World.frozen?_setCells];exact hNf _) (fun v hv=>h1c v (List.mem_of_mem_drop hv))
 have hfin:=af (And.intro hGn (And.intro QE (And.intro hRs Et)));subst hW1;have hE1: ∀x,((w.alloc (.cells ROW 164)).drew).cell? x=(w.drew.alloc (.cells ROW 164)).cell? x:=fun x=>rfl
 have hE2: ∀x,((w.alloc (.cells ROW 164)).drew).frozen? x=(w.drew.alloc (.cells ROW 164)).frozen? x:=fun x=>rfl
 have hF1: ∀x,(((w.alloc (.cells ROW 164)).drew.setCells w.heap.size i [u]).drew).cell? x=((w.drew.alloc (.cells ROW 164)).setCells w.heap.size i [u]).cell? x:=fun x=>rfl
 have hF2: ∀x,(((w.alloc (.cells ROW 164)).drew.setCells w.heap.size i [u]).drew).frozen? x=((w.drew.alloc (.cells ROW 164)).setCells w.heap.size i [u]).frozen? x:=fun x=>rfl
 have hw1:IntKind.i64.wrap ((i:Int)+1)=(i:Int)+1:=by rw[IntKind.wrap_i64];omega
 have hb1:(0:Int)<=(i:Int)+1:=by omega
 have hin:i<=n:=by omega
 have htn:((i:Int)+1).toNat=i+1:=by omega
 have hb3:(i:Int)<=(n:Int):=by omega
 clear hkk hik hold hROW hG hRs Et hcs hvs hg hv hct hcl h1c Jq hN hNf hOb hOv hi0 hz0 hzs hzb QE hGn hdl hsz;go_enter Tryz.func309,Tryz.ntmps309
 go_wp2_with(first
  |(at_builtin;refine Lib.wpList_append_run _ rfl _ _ _ _ rfl _ _ rfl rfl _ _ (hrz _) ?_)
  |(at_builtin;refine wpList_copy_runI _ rfl _ _ 157 157 rfl _ _ rfl rfl (hcpA _ hE1 hE2 _ _) ?_))
 go_region_law(refine step_copy_runI rfl _ _ 157 157 rfl (.slice (some ⟨w.heap.size,i+1,none⟩) (n-i) (G-(i+1))) (.slice (some ⟨g,i,none⟩) (n-i) (c-i)) (by simp[Act.eval,Act.put]) (by simp[Act.eval,Act.put]) (hcpB _ hF1 hF2 3 (G-(i+1)) (c-i)) ?_)
 go_wp2_with fail
 go_ret
 exact⟨G,ROW,hfin.out.1,hfin.out.2.1,hfin.out.2.2.1,hfin.out.2.2.2,rfl,rfl⟩
theorem FL{α:Type}(cur R:List α)(u:α)(i n:Nat)(hi:i<n)(hR:R.length=n)(hc:n+1<=cur.length)(ht:cur.take n=R):
  ((cur.take (i+1)++R.drop i++cur.drop (i+1+(R.drop i).length)).take i++[u]++(cur.take (i+1)++R.drop i++cur.drop (i+1+(R.drop i).length)).drop (i+[u].length)).take (n+1)=R.take i++[u]++R.drop i:=by
 have l1:(cur.take (i+1)).length=i+1:=by rw[List.length_take];omega
 have a:(cur.take (i+1)++R.drop i++cur.drop (i+1+(R.drop i).length)).take i=R.take i:=by
  rw[List.append_assoc,List.take_append_of_le_length (by omega),List.take_take,Nat.min_eq_left (by omega),<-ht,List.take_take,Nat.min_eq_left (by omega)]
 have b:(cur.take (i+1)++R.drop i++cur.drop (i+1+(R.drop i).length)).drop (i+[u].length)=R.drop i++cur.drop (i+1+(R.drop i).length):=by
  rw[List.append_assoc];exact List.drop_left' l1
 rw[a,b,<-List.append_assoc];refine List.take_left' ?_;simp only[List.length_append,List.length_take,List.length_drop,List.length_singleton];omega
theorem Kg{α:Type}(ROW R:List α)(u:α)(i n:Nat)(hi:i<n)(hR:R.length=n)(hc:n+1<=ROW.length)(ht:ROW.take i=R.take i):
  ((ROW.take i++[u]++ROW.drop (i+[u].length)).take (i+1)++R.drop i++(ROW.take i++[u]++ROW.drop (i+[u].length)).drop (i+1+(R.drop i).length)).take (n+1)=R.take i++[u]++R.drop i:=by
 have l1:(ROW.take i++[u]).length=i+1:=by rw[List.length_append,List.length_take,List.length_singleton];omega
 have a:(ROW.take i++[u]++ROW.drop (i+[u].length)).take (i+1)=R.take i++[u]:=by rw[List.take_left' l1,ht]
 rw[a];refine List.take_left' ?_;simp only[List.length_append,List.length_take,List.length_drop,List.length_singleton];omega
theorem RJ(dv:Value)(ds:List DW)(d:DW)(vb i:Nat)(w:World)(h:Sl 164 gZ 1 0 w dv ds)(hv:w.heap[vb]?=some (.cells #[.pointer (some ⟨d.blk,0,none⟩)] 164 (0,0)))(hne:dv.ownBlock≠some vb)(hl:ds.length<=3)(hi:i<=ds.length):
  Calls Tryz.prog 309 #[dv,.int .i64 i,.slice (some ⟨vb,0,none⟩) 1 1] w (AL dv (ds.take i++[d]++ds.drop i) w):=by
 by_cases hie:i=ds.length
 ·subst hie
  rw[List.take_length,List.drop_length,List.append_nil];exact RI dv ds d vb w h hv hl
 ·rcases h.form with⟨_,rfl⟩|⟨g,cap,rfl,_,cur,hg,h1,h2,h3,h4⟩
  ·exact absurd (Nat.le_zero.1 hi) hie
  ·have hlt:i<ds.length:=by omega
   rw[Nat.mul_one]at h3 h4;have hcl:(aC gZ ds).length=ds.length:=by rw[oH,List.length_map]
   have h1c: ∀v∈aC gZ ds,v.oneCell'=true:=qF NW.one ds;have hgn:vb≠g:=fun e=>hne (by rw[e];rfl)
   have hc63:cap<=9223372036854775807:=by unfold maxLen at h2;omega
   have hlg:g<w.heap.size:=aj hg;have hnew:aC gZ (ds.take i++[d]++ds.drop i)=(aC gZ ds).take i++[.pointer (some ⟨d.blk,0,none⟩)]++(aC gZ ds).drop i:=by
    simp only[oH,List.map_append,List.map_take,List.map_drop,List.map_cons,List.map_nil]
   have hnl:(ds.take i++[d]++ds.drop i).length=ds.length+1:=by simp;omega
   by_cases hroom:ds.length+1<=cap
   ·refine(Ke g ds.length cap i vb (aC gZ ds) (.pointer (some ⟨d.blk,0,none⟩)) w hlt hroom hl hc63 hgn cur hg h3 hcl h4 h1c rfl hv).mono ?_
    rintro e w' ⟨rfl,rfl⟩;obtain⟨c1,k1,k2,k3⟩:=dA ((aC gZ ds).drop i) (i+1) w.drew cur hg (by rw[List.length_drop,hcl];omega);obtain⟨c2,m1,m2,m3⟩:=dA [.pointer (some ⟨d.blk,0,none⟩)] i _ c1 k1 (by simp;omega);have hO:ai [g] w ((w.drew.setCells g (i+1) ((aC gZ ds).drop i)).setCells g i [.pointer (some ⟨d.blk,0,none⟩)]):=dB (by simp) _ _ (dB (by simp) _ _ ((ai.refl _ _).drew));refine⟨_,rfl,⟨by rw[hnew,hnl];simp only[List.length_append,List.length_take,List.length_drop,List.length_singleton,hcl];omega,.inr ⟨g,cap,c2,by rw[hnl],Nat.zero_le _,m1,by rw[hnl];exact hroom,h2,by rw[m2,k2,h3];omega,?_⟩⟩,hO,fun q hq=>.inl hq⟩;rw[hnl,hnew,m3,k3,Nat.mul_one];exact FL cur.toList (aC gZ ds) _ i ds.length hlt hcl (by simp[h3];omega) h4
   ·refine(NY g ds.length cap i vb (aC gZ ds) (.pointer (some ⟨d.blk,0,none⟩)) w hlt h1 (by omega) hl cur hg hcl h4 h1c rfl hv).mono ?_
    rintro e w' ⟨G,ROW,hG,QE,hRs,Et,rfl,rfl⟩;obtain⟨c1,k1,k2,k3⟩:=dA [.pointer (some ⟨d.blk,0,none⟩)] i ((w.alloc (.cells ROW 164)).drew) ROW (heap_alloc_new w _) (by simp;omega);obtain⟨c2,m1,m2,m3⟩:=dA ((aC gZ ds).drop i) (i+1) (((w.alloc (.cells ROW 164)).drew.setCells w.heap.size i [.pointer (some ⟨d.blk,0,none⟩)]).drew) c1 k1 (by rw[List.length_drop,hcl];omega);have gV:ai [w.heap.size] (w.alloc (.cells ROW 164)) ((((w.alloc (.cells ROW 164)).drew.setCells w.heap.size i [.pointer (some ⟨d.blk,0,none⟩)]).drew).setCells w.heap.size (i+1) ((aC gZ ds).drop i)):=
     dB (by simp) _ _ ((dB (by simp) _ _ ((ai.refl _ _).drew)).drew)
    have hO:ai (Value.slice (some ⟨g,0,none⟩) ds.length cap).ownBlock.toList w ((((w.alloc (.cells ROW 164)).drew.setCells w.heap.size i [.pointer (some ⟨d.blk,0,none⟩)]).drew).setCells w.heap.size (i+1) ((aC gZ ds).drop i)):=
     ((ai.refl _ _).alloc _).trans' gV (fun x hx=>.inr (by simp at hx;omega))
    refine⟨_,rfl,⟨by rw[hnew,hnl];simp only[List.length_append,List.length_take,List.length_drop,List.length_singleton,hcl];omega,.inr ⟨w.heap.size,G,c2,by rw[hnl],Nat.zero_le _,m1,by rw[hnl];exact hG,QE,by rw[m2,k2,hRs,Nat.mul_one],?_⟩⟩,hO,fun q hq=>.inr (by simp[Value.ownBlock]at hq;omega)⟩;rw[hnl,hnew,m3,k3,Nat.mul_one];exact Kg ROW.toList (aC gZ ds) _ i ds.length hlt hcl (by simp[hRs];omega) Et
end Go.Proofs.YtedcakchekaemaaGreatDoor
namespace Go.Proofs.YtedcakchekaemaaGreatDoor
open Go.RowKit
variable [Kd]
structure jh (w w':World) (b i:Nat) (v:Value):Prop where
 own:ai [b] w w'
 row: ∀(cur:Array Value) (T:TypeId),w.heap[b]?=some (.cells cur T (0,0))->w'.heap[b]?=some (.cells (cur.setIfInBounds i v) T (0,0))
theorem jh.of{w:World}{b i:Nat}{v:Value}(o:Obj):jh w ((w.setCell ⟨b,i,none⟩ v).alloc o) b i v:=
 ⟨((ai.refl [b] w).setCell (.inl (by simp)) _).alloc _,fun cur T h=>((ai.refl [] _).alloc o).heap (heap_setCell_same _ b i _ _ v h) (by simp)⟩
def aL(ok:Bool)(w:World)(b i:Nat)(v:Value)(e:Ending)(w':World):Prop:=
 match ok with
 |true=>e=.returned (.int .i64 0)/\jh w w' b i v
 |false=>(∃ec:Int,ec≠0/\e=.returned (.int .i64 ec))/\ai [] w w'
theorem fV(f:bG)(b i:Nat)(u:Value)(w:World)(hc:w.cell? ⟨b,i,none⟩=some u)(hz:w.frozen? ⟨b,i,none⟩=false):
  Calls Tryz.prog 385 #[.agg (fL f).toArray,.pointer (some ⟨b,i,none⟩)] w (aL (f.kind==2) w b i (.string f.text)):=by
 obtain⟨n,k,v,t⟩:=f;unfold fL;have hlt:=block_lt_of_cell hc;by_cases h2:k=2
 ·subst h2
  have hO:=jh.of (w:=w) (b:=b) (i:=i) (v:=.string t) (.cells #[.int .i64 n,.int .i64 2,.int .u64 v,.string t] 100);go_enter Tryz.func385,Tryz.ntmps385
  go_wp2_with fail
  go_ret
  exact⟨rfl,hO⟩
 ·have q:(k==2)=false:=by simpa using h2
  show Calls _ _ _ _ (aL (k==2) w b i (.string t));rw[q];have hO:=(ai.refl [] w).alloc (.cells #[.int .i64 n,.int .i64 k,.int .u64 v,.string t] 100);go_enter Tryz.func385,Tryz.ntmps385
  go_wp2_with fail
  go_ret
  exact⟨⟨4,by decide,rfl⟩,hO⟩
def eG(ok:Bool)(v:Int)(w:World)(e:Ending)(w':World):Prop:=
 match ok with
 |true=>e=.returned (.tuple #[.int .u64 v,.int .i64 0])/\ai [] w w'
 |false=>(∃ec:Int,ec≠0/\e=.returned (.tuple #[.int .u64 0,.int .i64 ec]))/\ai [] w w'
theorem qg(f:bG)(most:Int)(w:World):
  Calls Tryz.prog 394 #[.agg (fL f).toArray,.int .u64 most] w (eG (f.kind==0&&decide (f.val<=most)) f.val w):=by
 obtain⟨n,k,v,t⟩:=f;unfold fL;have hO:=(ai.refl [] w).alloc (.cells #[.int .i64 n,.int .i64 k,.int .u64 v,.string t] 100);show Calls _ _ _ _ (eG (k==0&&decide (v<=most)) v w);by_cases h0:k=0
 ·subst h0
  by_cases hv:v<=most
  ·have q:decide (v<=most)=true:=by simpa using hv
   have hv': ¬most<v:=by omega
   rw[q];go_enter Tryz.func394,Tryz.ntmps394
   go_wp2_with fail
   go_ret2
   exact⟨rfl,hO⟩
  ·have q:decide (v<=most)=false:=by simpa using hv
   have hv':most<v:=by omega
   rw[q];go_enter Tryz.func394,Tryz.ntmps394
   go_wp2_with fail
   go_ret2
   exact⟨⟨5,by decide,rfl⟩,hO⟩
 ·have q:(k==0)=false:=by simpa using h0
  rw[q];go_enter Tryz.func394,Tryz.ntmps394
  go_wp2_with fail
  go_ret2
  exact⟨⟨4,by decide,rfl⟩,hO⟩
theorem jw{S:List Nat}{w w':World}(h:ai S w w'){b i:Nat}(hb:b<w.heap.size)(hn:b∉S):w'.frozen? ⟨b,i,none⟩=w.frozen? ⟨b,i,none⟩:=by
 have:=h.block b hb hn;unfold World.frozen?;simp only[this]
theorem jh.of2{w w1:World}{b i:Nat}{v:Value}(h:ai [] w w1):jh w (w1.setCell ⟨b,i,none⟩ v) b i v:=
 ⟨h.nil.setCell (.inl (by simp)) _,fun cur T hh=>heap_setCell_same _ b i _ _ v (h.heap hh (by simp))⟩
theorem qK(f:bG)(b i:Nat)(u:Value)(w:World)(hc:w.cell? ⟨b,i,none⟩=some u)(hz:w.frozen? ⟨b,i,none⟩=false):
  Calls Tryz.prog 388 #[.agg (fL f).toArray,.pointer (some ⟨b,i,none⟩)] w (aL (f.kind==0&&decide (f.val<=1)) w b i (.bool (f.val==1))):=by
 have hA:=(ai.refl [] w).alloc (.cells (fL f).toArray 100);have cN:=qg f 1 (w.alloc (.cells (fL f).toArray 100));have hc1:=(hA.cell (block_lt_of_cell hc) (by simp)).trans hc;have hbl:=block_lt_of_cell hc;obtain⟨n,k,v,t⟩:=f;unfold fL at*;simp only at*;obtain⟨ok,hok⟩: ∃ok,(k==0&&decide (v<=1))=ok:=⟨_,rfl⟩;rw[hok]at cN⊢;cases ok
 ·unfold eG at cN
  unfold aL;replace cN:=af cN;replace hA:=af hA;clear hc hc1 hok;go_enter Tryz.func388,Tryz.ntmps388
  go_wp2_with fail
  refine cN.out.mono ?_;rintro e w2 ⟨⟨ec,ay,rfl⟩,hO⟩;have q:(ec==0)=false:=by simpa using ay
  change Hid _ at hO ay;go_wp2_with fail
  go_ret
  exact⟨⟨ec,ay.out,rfl⟩,hA.out.trans hO.out⟩
 ·unfold eG at cN
  unfold aL;replace cN:=af cN;replace hA:=af hA;simp only[Bool.and_eq_true,decide_eq_true_eq]at hok;clear hc;go_enter Tryz.func388,Tryz.ntmps388
  go_wp2_with fail
  refine cN.out.mono ?_;rintro e w2 ⟨rfl,hO⟩;have hc2:=(hO.cell (p:=⟨b,i,none⟩) (by simp;omega) (by simp)).trans hc1;have hO2:=hA.out.trans hO;have hz2:w2.frozen? ⟨b,i,none⟩=false:=(jw hO2 hbl (by simp)).trans hz;have hS:=af (jh.of2 (b:=b) (i:=i) (v:=.bool (v==1)) hO2);clear hc1 hO hO2 hz hok;go_wp2_with fail
  go_ret
  exact⟨rfl,hS.out⟩
theorem xH(f:bG)(b i:Nat)(u:Value)(w:World)(hc:w.cell? ⟨b,i,none⟩=some u)(hz:w.frozen? ⟨b,i,none⟩=false)(h0:0<=f.val):
  Calls Tryz.prog 387 #[.agg (fL f).toArray,.pointer (some ⟨b,i,none⟩)] w (aL (f.kind==0&&decide (f.val<=4294967295)) w b i (.int .u32 f.val)):=by
 have hA:=(ai.refl [] w).alloc (.cells (fL f).toArray 100);have cN:=qg f 4294967295 (w.alloc (.cells (fL f).toArray 100));have hc1:=(hA.cell (block_lt_of_cell hc) (by simp)).trans hc;have hbl:=block_lt_of_cell hc;obtain⟨n,k,v,t⟩:=f;unfold fL at*;simp only at*;obtain⟨ok,hok⟩: ∃ok,(k==0&&decide (v<=4294967295))=ok:=⟨_,rfl⟩;rw[hok]at cN⊢;cases ok
 ·unfold eG at cN
  unfold aL;replace cN:=af cN;replace hA:=af hA;clear hc hc1 hok;go_enter Tryz.func387,Tryz.ntmps387
  go_wp2_with fail
  refine cN.out.mono ?_;rintro e w2 ⟨⟨ec,ay,rfl⟩,hO⟩;have q:(ec==0)=false:=by simpa using ay
  change Hid _ at hO ay;go_wp2_with fail
  go_ret
  exact⟨⟨ec,ay.out,rfl⟩,hA.out.trans hO.out⟩
 ·unfold eG at cN
  unfold aL;replace cN:=af cN;replace hA:=af hA;simp only[Bool.and_eq_true,decide_eq_true_eq]at hok;have hm:v%4294967296=v:=by omega
  clear hc;go_enter Tryz.func387,Tryz.ntmps387
  go_wp2_with fail
  refine cN.out.mono ?_;rintro e w2 ⟨rfl,hO⟩;have hc2:=(hO.cell (p:=⟨b,i,none⟩) (by simp;omega) (by simp)).trans hc1;have hO2:=hA.out.trans hO;have hz2:w2.frozen? ⟨b,i,none⟩=false:=(jw hO2 hbl (by simp)).trans hz;have hS:=af (jh.of2 (b:=b) (i:=i) (v:=.int .u32 v) hO2);clear hc1 hO hO2 hz hok;go_wp2_with fail
  go_ret
  exact⟨rfl,hS.out⟩
theorem zM(f:bG)(b i:Nat)(u:Value)(w:World)(hc:w.cell? ⟨b,i,none⟩=some u)(hz:w.frozen? ⟨b,i,none⟩=false):
  Calls Tryz.prog 386 #[.agg (fL f).toArray,.pointer (some ⟨b,i,none⟩)] w (aL (f.kind==0&&decide (f.val<=18446744073709551615)) w b i (.int .u64 f.val)):=by
 have hA:=(ai.refl [] w).alloc (.cells (fL f).toArray 100);have cN:=qg f 18446744073709551615 (w.alloc (.cells (fL f).toArray 100));have hc1:=(hA.cell (block_lt_of_cell hc) (by simp)).trans hc;have hbl:=block_lt_of_cell hc;obtain⟨n,k,v,t⟩:=f;unfold fL at*;simp only at*;obtain⟨ok,hok⟩: ∃ok,(k==0&&decide (v<=18446744073709551615))=ok:=⟨_,rfl⟩;rw[hok]at cN⊢;cases ok
 ·unfold eG at cN
  unfold aL;replace cN:=af cN;replace hA:=af hA;clear hc hc1 hok;go_enter Tryz.func386,Tryz.ntmps386
  go_wp2_with fail
  refine cN.out.mono ?_;rintro e w2 ⟨⟨ec,ay,rfl⟩,hO⟩;have q:(ec==0)=false:=by simpa using ay
  change Hid _ at hO ay;go_wp2_with fail
  go_ret
  exact⟨⟨ec,ay.out,rfl⟩,hA.out.trans hO.out⟩
 ·unfold eG at cN
  unfold aL;replace cN:=af cN;replace hA:=af hA;simp only[Bool.and_eq_true,decide_eq_true_eq]at hok;clear hc;go_enter Tryz.func386,Tryz.ntmps386
  go_wp2_with fail
  refine cN.out.mono ?_;rintro e w2 ⟨rfl,hO⟩;have hc2:=(hO.cell (p:=⟨b,i,none⟩) (by simp;omega) (by simp)).trans hc1;have hO2:=hA.out.trans hO;have hz2:w2.frozen? ⟨b,i,none⟩=false:=(jw hO2 hbl (by simp)).trans hz;have hS:=af (jh.of2 (b:=b) (i:=i) (v:=.int .u64 v) hO2);clear hc1 hO hO2 hz hok;go_wp2_with fail
  go_ret
  exact⟨rfl,hS.out⟩
end Go.Proofs.YtedcakchekaemaaGreatDoor
