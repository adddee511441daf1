/- Contracts of the program, part 23. -/
import Derived.Test.YtedcakchekaemaaGreatDoorMp22
set_option maxRecDepth 100000
set_option maxHeartbeats 16000000
set_option linter.all false
namespace Go.Proofs.YtedcakchekaemaaGreatDoor
open Go.RowKit Go.Shelf Go.Lib
variable [Kd]
structure Bi where
 k0:ByteArray
 k1:ByteArray
 t:ByteArray
def bR(x:Bi):List Value:=[.string x.k0,.string x.k1,.string x.t]
theorem dJ(x:Bi):(bR x).length=3:=rfl
theorem Bh:(Tryz.prog.info? 227).map (fun i=>(i.zero,i.size,i.bytes))=some (some (.agg #[.string ⟨#[]⟩,.string ⟨#[]⟩,.string ⟨#[]⟩]),3,48):=by kernel_rfl
theorem sM:jG Tryz.prog 148 227 bR 3 48 where
 ut:=Tryz.underlying148
 info:=by obtain⟨i,h1,h2,h3,h4⟩:=info_parts Bh;exact⟨i,_,h1,h2,h3,h4,rfl⟩
 pos:=by omega
 len:=dJ
 one x u hu:=by simp only[bR,List.mem_cons,List.not_mem_nil,or_false]at hu;rcases hu with rfl|rfl|rfl<;>rfl
theorem jb{P:Program}(w:World)(dT sT ty elem:TypeId)(k b o dLen dCap:Nat)(a:Addr)(sLen sCap m:Nat)(cs:List Value)
  (hu:P.underlying dT=some (.slice elem))(hs:(P.info? elem).map (·.size)=some k)(hm:m=Nat.min sLen dLen)(hn:cs.length=m*k)
  (hsrc: ∀j v,cs[j]?=some v->w.cell? (a.add j)=some v)(hc: ∀j,j<cs.length->(w.cell? ⟨b,o+j,none⟩).isSome=true)(hf: ∀j,j<cs.length->w.frozen? ⟨b,o+j,none⟩=false)(h1: ∀v∈cs,v.oneCell'=true):
  (Builtin.copy_ #[dT,sT] ty #[.slice (some ⟨b,o,none⟩) dLen dCap,.slice (some a) sLen sCap]).run P w=.ok (goInt m) (w.setCells b o cs):=by
 have hl:=run_loadCells_list (P:=P) w a cs hsrc;have hst:=run_storeCells_cells (P:=P) b o cs 0 w (by simpa using hc) (by simpa using hf) h1;rw[hn]at hl;cases hq:P.info? elem with
 |none=>simp[hq]at hs
 |some i=>
  have hi:i.size=k:=by simpa[hq]using hs
  simp[Builtin.copy_,run_underlying hu,Builtin.lenOf,Builtin.firstCells,sizeOf,typeInfo,hq,hi,<-hm,hl,hst]
def zq(dv:Value)(l:List Bi)(w:World)(e:Ending)(w':World):Prop:=
 ∃v',e=.returned v'/\Sl 227 bR 3 0 w' v' l/\ai dv.ownBlock.toList w w'/\(∀g,v'.ownBlock=some g->dv.ownBlock=some g\/w.heap.size<=g)
theorem Q0(dv:Value)(ds:List Bi)(d:Bi)(vb:Nat)(w:World)(h:Sl 227 bR 3 0 w dv ds)(hv:w.heap[vb]?=some (.cells (bR d).toArray 227 (0,0)))(hl:ds.length<=40):
  Calls Tryz.prog 172 #[dv,.int .i64 ds.length,.slice (some ⟨vb,0,none⟩) 1 1] w (zq dv (ds++[d]) w):=by
 have hR:aG bR w (.slice (some ⟨vb,0,none⟩) 1 1) [d]:=.inr ⟨vb,0,1,rfl,fun j u hu=>by
  rw[Nat.zero_add,cell_of_row w vb j _ _ _ hv];simpa[aI,bR]using hu⟩
 obtain⟨v1,hsl,_,_⟩:=h.drop sM (Nat.le_refl ds.length);obtain⟨sa,sc,rfl⟩:=h.sl;have hB:=af (Bd w);have hS:Sl 227 bR 3 (Ky w).heap.size w (.slice sa ds.length sc) ds:=h;change Hid _ at hS hR;have hl1:=af (show(ds.length+[d].length)*48<=140737488355328 by simp;omega);have hl2:=af (show ds.length+[d].length<=maxLen by unfold maxLen;simp;omega);clear h hv;go_enter Tryz.func172,Tryz.ntmps172
 go_wp2_with(at_builtin;refine aT rfl (.tmp 23) (.tmp 24) rfl sM hB.out rfl hS.out rfl hR.out hl1.out hl2.out ?_;intro v5 w5 hS5 _ _ hg5 iD;replace hS5:=af hS5;replace hg5:=af hg5;replace iD:=af iD)
 go_ret
 exact⟨v5,rfl,hS5.out,iD.out,hg5.out⟩
theorem IE(g n c i vb:Nat)(cs:List Value)(us:List Value)(w:World)(hi:i<n)(hroom:n+1<=c)(Va:n<=40)(hc63:c<=9223372036854775807)(hvb:vb≠g)
  (cur:Array Value)(hg:w.heap[g]?=some (.cells cur 227 (0,0)))(hcz:cur.size=c*3)(hcl:cs.length=n*3)(hct:cur.toList.take (n*3)=cs)(h1c: ∀v∈cs,v.oneCell'=true)(K7: ∀v∈us,v.oneCell'=true)(Gl:us.length=3)
  (hv:w.heap[vb]?=some (.cells us.toArray 227 (0,0))):
  Calls Tryz.prog 172 #[.slice (some ⟨g,0,none⟩) n c,.int .i64 i,.slice (some ⟨vb,0,none⟩) 1 1] w fun e w'=>
   e=.returned (.slice (some ⟨g,0,none⟩) (n+1) c)/\w'=(w.drew.setCells g ((i+1)*3) (cs.drop (i*3))).setCells g (i*3) us:=by
 have hcell: ∀j v,cs[j]?=some v->w.cell? ⟨g,j,none⟩=some v:=fun j v hj=>by
  rw[cell_of_row w g j _ _ _ hg];rw[<-hct,List.getElem?_take]at hj;split at hj
  ·simpa using hj
  ·cases hj
 have hsp: ∀j,j<(n+1)*3->(w.cell? ⟨g,j,none⟩).isSome=true:=fun j hj=>by
  rw[cell_of_row w g j _ _ _ hg,Array.getElem?_eq_getElem (by omega)];rfl
 have hfz: ∀j,w.frozen? ⟨g,j,none⟩=false:=fun j=>frozen_of_row w g j _ _ hg
 have Y6: ∀j v,us[j]?=some v->w.cell? ⟨vb,j,none⟩=some v:=fun j v hj=>by
  rw[cell_of_row w vb j _ _ _ hv];simpa using hj
 have hsz:(Tryz.prog.info? 227).map (·.size)=some 3:=by kernel_rfl
 have hsa:w.shape? vb=some (227,3):=by simp[World.shape?,hv,Gl]
 have hsb:w.shape? g=some (227,cur.size):=by simp[World.shape?,hg]
 have hz3: ∀w,(Go.sizeOf 227).run Tryz.prog w=.ok 3 w:=fun w=>by kernel_rfl
 have hov: ∀lb cb,(callFunc 226 #[.slice (some ⟨vb,0,none⟩) 1 1,.slice (some ⟨g,(i+1)*3,none⟩) lb cb]).run Tryz.prog w=.ok (.value (.bool false)) w:=fun lb cb=>by
  rw[run_callFunc_extern Tryz.func226 (by kernel_rfl) (by kernel_rfl) (by kernel_rfl) (e:=Extern.SlicesOverlaps.overlaps #[148,148] #[4]) (by kernel_rfl),
   Lib.run_overlaps_apart w 148 4 227 Tryz.underlying148 3 hz3 ⟨vb,0,none⟩ ⟨g,(i+1)*3,none⟩ 1 1 lb cb hvb 227 227 3 cur.size hsa hsb (by omega) (frozen_of_row w vb 0 _ _ hv) (frozen_of_row w vb 3 _ _ hv)]
  rfl
 have hdl:(cs.drop (i*3)).length=(n-i)*3:=by rw[List.length_drop,hcl];omega
 have hz2: ¬((i:Int)=(n:Int)):=by omega
 have hw1:IntKind.i64.wrap ((i:Int)+1)=(i:Int)+1:=by rw[IntKind.wrap_i64];omega
 have hb1:(0:Int)<=(i:Int)+1:=by omega
 have htn:((i:Int)+1).toNat=i+1:=by omega
 have hb2: ¬(c=i+1):=by omega
 have hb3:(i:Int)<=(n:Int)+1:=by omega
 have hb4: ¬(c=i):=by omega
 have hin:i<=n:=by omega
 have hcp1: ∀ty dc sc,(Builtin.copy_ #[148,148] ty #[.slice (some ⟨g,(i+1)*3,none⟩) (n-i) dc,.slice (some ⟨g,i*3,none⟩) (n+1-i) sc]).run Tryz.prog w.drew=.ok (goInt ((n-i:Nat):Int)) (w.drew.setCells g ((i+1)*3) (cs.drop (i*3))):=fun ty dc sc=>
  jb w.drew _ _ ty 227 3 g ((i+1)*3) (n-i) dc ⟨g,i*3,none⟩ (n+1-i) sc (n-i) (cs.drop (i*3)) Tryz.underlying148 hsz (by simp only[Nat.min_def];split<;>omega) hdl
   (fun j v hj=>by rw[Addr.add_lit];exact hcell (i*3+j) v (by rwa[List.getElem?_drop]at hj))
   (fun j hj=>hsp _ (by rw[hdl]at hj;omega)) (fun j hj=>hfz _) (fun v hv=>h1c v (List.mem_of_mem_drop hv))
 obtain⟨W1,hW1⟩: ∃W1,W1=w.drew.setCells g ((i+1)*3) (cs.drop (i*3)):=⟨_,rfl⟩;have hsp1: ∀k,k<(n+1)*3->(W1.cell? ⟨g,k,none⟩).isSome=true:=fun k hk=>by
  rw[hW1];exact isSome_setCells g (cs.drop (i*3)) ((i+1)*3) w.drew (fun j hj=>hsp _ (by rw[hdl]at hj;omega)) k (hsp k hk)
 have hcp2: ∀(W:World),(∀x,W.cell? x=W1.cell? x)->(∀x,W.frozen? x=W1.frozen? x)-> ∀ty dc,(Builtin.copy_ #[148,148] ty #[.slice (some ⟨g,i*3,none⟩) (n+1-i) dc,.slice (some ⟨vb,0,none⟩) 1 1]).run Tryz.prog W=.ok (goInt ((1:Nat):Int)) (W.setCells g (i*3) us):=fun W hWc hWf ty dc=>
  jb W _ _ ty 227 3 g (i*3) (n+1-i) dc ⟨vb,0,none⟩ 1 1 1 us Tryz.underlying148 hsz (by simp only[Nat.min_def];split<;>omega) Gl
   (fun j v hj=>by
    rw[Addr.add_lit,hWc,hW1,World.cell?_setCells_out g _ _ _ _ (fun h _=>absurd h hvb),Nat.zero_add];exact Y6 j v hj)
   (fun j hj=>by rw[hWc];exact hsp1 _ (by rw[Gl]at hj;omega)) (fun j hj=>by rw[hWf,hW1,World.frozen?_setCells];exact hfz _) K7
 rw[<-hW1]at hcp1;clear hcell hsp hfz Y6 hsa hsb hz3 hsz hdl hsp1 hg hv hct hcl h1c K7 Gl;go_enter Tryz.func172,Tryz.ntmps172
 go_wp2_with(simp only[hov])
 go_region_law(refine step_copy_runI rfl _ _ 148 148 rfl _ _ (by simp[Act.eval,Act.put]) (by simp[Act.eval,Act.put]) (hcp1 _ _ _) ?_)
 go_wp2_with(at_builtin;refine wpList_copy_runI _ rfl _ _ 148 148 rfl _ _ rfl rfl (hcp2 _ (fun _=>rfl) (fun _=>rfl) _ _) ?_)
 go_ret
 first|exact⟨rfl,rfl⟩|exact⟨rfl,by rw[hW1]⟩
theorem MH(g n c i vb:Nat)(cs:List Value)(us:List Value)(w:World)(hi:i<n)(hnc:n<=c)(hroom:c<n+1)(Va:n<=40)
  (cur:Array Value)(hg:w.heap[g]?=some (.cells cur 227 (0,0)))(hcl:cs.length=n*3)(hct:cur.toList.take (n*3)=cs)(h1c: ∀v∈cs,v.oneCell'=true)(K7: ∀v∈us,v.oneCell'=true)(Gl:us.length=3)
  (hv:w.heap[vb]?=some (.cells us.toArray 227 (0,0))):
  Calls Tryz.prog 172 #[.slice (some ⟨g,0,none⟩) n c,.int .i64 i,.slice (some ⟨vb,0,none⟩) 1 1] w fun e w'=> ∃(G:Nat) (ROW:Array Value),n+1<=G/\G<=maxLen/\ROW.size=G*3/\ROW.toList.take (i*3)=cs.take (i*3)/\
   e=.returned (.slice (some ⟨w.heap.size,0,none⟩) (n+1) G)/\w'=(((w.alloc (.cells ROW 227)).drew.setCells w.heap.size (i*3) us).drew).setCells w.heap.size ((i+1)*3) (cs.drop (i*3)):=by
 have hcs: ∀j v,cs[j]?=some v->w.cell? ⟨g,j,none⟩=some v:=fun j v hj=>by
  rw[cell_of_row w g j _ _ _ hg];rw[<-hct,List.getElem?_take]at hj;split at hj
  ·simpa using hj
  ·cases hj
 have hvs: ∀j v,us[j]?=some v->w.cell? ⟨vb,j,none⟩=some v:=fun j v hj=>by
  rw[cell_of_row w vb j _ _ _ hv];simpa using hj
 obtain⟨i0,hi0,hz0,hzs,hzb⟩:=info_parts Bh;have hz2: ¬((i:Int)=(n:Int)):=by omega
 have hz3:(c:Int)<(n:Int)+1:=by omega
 have hsz:(Tryz.prog.info? 227).map (·.size)=some 3:=by rw[hi0];simp[hzs]
 have hbw:g<w.heap.size:=aj hg;have hvw:vb<w.heap.size:=aj hv;have hkk:(n:Int)+1-(i:Int)=((n+1-i:Nat):Int):=by omega
 have hik:i+(n+1-i)=n+1:=by omega
 have hold:(Builtin.firstCells i0.size i (.slice (some ⟨g,0,none⟩) i c)).run Tryz.prog w.drew=.ok (cs.take (i*3)).toArray w.drew:=by
  rw[hzs];exact run_firstCells_some w.drew 3 i ⟨g,0,none⟩ i c (cs.take (i*3)) (by rw[List.length_take];omega) (fun j v hj=>by
   rw[Addr.add_lit,Nat.zero_add];rw[List.getElem?_take]at hj;split at hj
   ·exact hcs j v hj
   ·cases hj)
 have hrz: ∀ty,(Builtin.append_ #[148,3] ty #[.slice (some ⟨g,0,none⟩) i c,.int .i64 ((n:Int)+1-(i:Int))]).run Tryz.prog w=
   .ok (.slice (some ⟨w.heap.size,0,none⟩) (n+1) (grownCap w (n+1) c 227)) (w.drew.alloc (.cells ((cs.take (i*3)).toArray++Builtin.zeroCells (Value.agg #[.string ⟨#[]⟩,.string ⟨#[]⟩,.string ⟨#[]⟩]).cells (n+1-i)++Builtin.zeroCells (Value.agg #[.string ⟨#[]⟩,.string ⟨#[]⟩,.string ⟨#[]⟩]).cells (grownCap w (n+1) c 227-(n+1))) 227)):=fun ty=>by
  have h:=Lib.run_append_grow_zeros w 148 3 ty 227 i0 _ .i64 .i64 Tryz.underlying148 Tryz.underlying3 hi0 hz0 (some ⟨g,0,none⟩) i c (cs.take (i*3)) hold (n+1-i) (by omega) (by omega) (by omega) (by omega) (by rw[hzb];omega) (by rw[hzb,hik];exact growslice_fits hroom (by omega));rw[hik]at h;rw[hkk];exact h
 obtain⟨G,hG⟩: ∃G,G=grownCap w (n+1) c 227:=⟨_,rfl⟩;obtain⟨ROW,hROW⟩: ∃ROW:Array Value,ROW=(cs.take (i*3)).toArray++Builtin.zeroCells (Value.agg #[.string ⟨#[]⟩,.string ⟨#[]⟩,.string ⟨#[]⟩]).cells (n+1-i)++Builtin.zeroCells (Value.agg #[.string ⟨#[]⟩,.string ⟨#[]⟩,.string ⟨#[]⟩]).cells (G-(n+1)):=⟨_,rfl⟩;rw[<-hG,<-hROW]at hrz;have hGn:n+1<=G:=by rw[hG];exact grownCap_ge w _ _ _
 have Uz:G<=maxLen:=by rw[hG];exact grownCap_le_maxLen w (n+1) c 227 (by unfold maxLen;omega)
 have hRs:ROW.size=G*3:=by
  rw[hROW];simp[Builtin.zeroCells,Value.cells];omega
 have Gg:ROW.toList.take (i*3)=cs.take (i*3):=by
  rw[hROW];simp only[Array.toList_append,List.append_assoc];have e:(cs.take (i*3)).length=i*3:=by rw[List.length_take];omega
  rw[List.take_append_of_le_length (Nat.le_of_eq e.symm)];show List.take (i*3) (cs.take (i*3))=cs.take (i*3);rw[List.take_take,Nat.min_self]
 obtain⟨W1,hW1⟩: ∃W1,W1=w.drew.alloc (.cells ROW 227):=⟨_,rfl⟩;rw[<-hW1]at hrz;have hN: ∀j,j<(n+1)*3->(W1.cell? ⟨w.heap.size,j,none⟩).isSome=true:=fun j hj=>by
  rw[hW1,World.cell?_alloc_at (w:=w.drew) ROW _ w.heap.size j rfl,Array.getElem?_eq_getElem (by omega)];rfl
 have hNf: ∀j,W1.frozen? ⟨w.heap.size,j,none⟩=false:=fun j=>by rw[hW1];exact World.frozen?_alloc_at (w:=w.drew) ROW _ w.heap.size j rfl
 have hOb: ∀j v,w.cell? ⟨g,j,none⟩=some v->W1.cell? ⟨g,j,none⟩=some v:=fun j v h=>by rw[hW1,World.cell?_alloc_past (w:=w.drew) _ g j hbw];exact h
 have hOv: ∀j v,w.cell? ⟨vb,j,none⟩=some v->W1.cell? ⟨vb,j,none⟩=some v:=fun j v h=>by rw[hW1,World.cell?_alloc_past (w:=w.drew) _ vb j hvw];exact h
 have hcpA: ∀(W:World),(∀x,W.cell? x=W1.cell? x)->(∀x,W.frozen? x=W1.frozen? x)-> ∀ty dc,(Builtin.copy_ #[148,148] ty #[.slice (some ⟨w.heap.size,i*3,none⟩) (n+1-i) dc,.slice (some ⟨vb,0,none⟩) 1 1]).run Tryz.prog W=.ok (goInt ((1:Nat):Int)) (W.setCells w.heap.size (i*3) us):=fun W hWc hWf ty dc=>
  jb W _ _ ty 227 3 w.heap.size (i*3) (n+1-i) dc ⟨vb,0,none⟩ 1 1 1 us Tryz.underlying148 hsz (by simp only[Nat.min_def];split<;>omega) Gl
   (fun j v hj=>by rw[Addr.add_lit,hWc,Nat.zero_add];exact hOv _ v (hvs j v hj))
   (fun j hj=>by rw[hWc];exact hN _ (by rw[Gl]at hj;omega)) (fun j hj=>by rw[hWf];exact hNf _) K7
 have hG63:G<=9223372036854775807:=by unfold maxLen at Uz;omega
 have hGi: ¬(G=i):=by omega
 have hGim: ¬(G=i+1):=by omega
 have hci: ¬(c=i):=by omega
 have hbN:g≠w.heap.size:=by omega
 have hdl:(cs.drop (i*3)).length=(n-i)*3:=by rw[List.length_drop,hcl];omega
 have hcpB: ∀(W:World),(∀x,W.cell? x=(W1.setCells w.heap.size (i*3) us).cell? x)->(∀x,W.frozen? x=(W1.setCells w.heap.size (i*3) us).frozen? x)-> ∀ty dc sc,(Builtin.copy_ #[148,148] ty #[.slice (some ⟨w.heap.size,(i+1)*3,none⟩) (n-i) dc,.slice (some ⟨g,i*3,none⟩) (n-i) sc]).run Tryz.prog W=.ok (goInt ((n-i:Nat):Int)) (W.setCells w.heap.size ((i+1)*3) (cs.drop (i*3))):=fun W hWc hWf ty dc sc=>
  jb W _ _ ty 227 3 w.heap.size ((i+1)*3) (n-i) dc ⟨g,i*3,none⟩ (n-i) sc (n-i) (cs.drop (i*3)) Tryz.underlying148 hsz (by simp only[Nat.min_def];split<;>omega) hdl
   (fun j v hj=>by
    rw[Addr.add_lit,hWc,World.cell?_setCells_out _ _ _ _ _ (fun h _=>absurd h hbN)];exact hOb _ v (hcs (i*3+j) v (by rwa[List.getElem?_drop]at hj)))
   (fun j hj=>by rw[hWc];exact isSome_setCells w.heap.size us (i*3) W1 (fun t ht=>hN _ (by rw[Gl]at ht;omega)) _ (hN _ (by rw[hdl]at hj;omega)))
   (fun j hj=>by rw[hWf,World.frozen?_setCells];exact hNf _) (fun v hv=>h1c v (List.mem_of_mem_drop hv))
 have hfin:=af (And.intro hGn (And.intro Uz (And.intro hRs Gg)));subst hW1;have hE1: ∀x,((w.alloc (.cells ROW 227)).drew).cell? x=(w.drew.alloc (.cells ROW 227)).cell? x:=fun x=>rfl
 have hE2: ∀x,((w.alloc (.cells ROW 227)).drew).frozen? x=(w.drew.alloc (.cells ROW 227)).frozen? x:=fun x=>rfl
 have hF1: ∀x,(((w.alloc (.cells ROW 227)).drew.setCells w.heap.size (i*3) us).drew).cell? x=((w.drew.alloc (.cells ROW 227)).setCells w.heap.size (i*3) us).cell? x:=fun x=>rfl
 have hF2: ∀x,(((w.alloc (.cells ROW 227)).drew.setCells w.heap.size (i*3) us).drew).frozen? x=((w.drew.alloc (.cells ROW 227)).setCells w.heap.size (i*3) us).frozen? x:=fun x=>rfl
 have hw1:IntKind.i64.wrap ((i:Int)+1)=(i:Int)+1:=by rw[IntKind.wrap_i64];omega
 have hb1:(0:Int)<=(i:Int)+1:=by omega
 have hin:i<=n:=by omega
 have htn:((i:Int)+1).toNat=i+1:=by omega
 have hb3:(i:Int)<=(n:Int):=by omega
 clear hkk hik hold hROW hG hRs Gg hcs hvs hg hv hct hcl h1c K7 Gl hN hNf hOb hOv hi0 hz0 hzs hzb Uz hGn hdl hsz;go_enter Tryz.func172,Tryz.ntmps172
 go_wp2_with(first
  |(at_builtin;refine Lib.wpList_append_run _ rfl _ _ _ _ rfl _ _ rfl rfl _ _ (hrz _) ?_)
  |(at_builtin;refine wpList_copy_runI _ rfl _ _ 148 148 rfl _ _ rfl rfl (hcpA _ hE1 hE2 _ _) ?_))
 go_region_law(refine step_copy_runI rfl _ _ 148 148 rfl (.slice (some ⟨w.heap.size,(i+1)*3,none⟩) (n-i) (G-(i+1))) (.slice (some ⟨g,i*3,none⟩) (n-i) (c-i)) (by simp[Act.eval,Act.put]) (by simp[Act.eval,Act.put]) (hcpB _ hF1 hF2 3 (G-(i+1)) (c-i)) ?_)
 go_wp2_with fail
 go_ret
 exact⟨G,ROW,hfin.out.1,hfin.out.2.1,hfin.out.2.2.1,hfin.out.2.2.2,rfl,rfl⟩
theorem Q5{α:Type}(cur R U:List α)(o m:Nat)(hi:o<m)(hR:R.length=m)(hU:U.length=3)(hc:m+3<=cur.length)(ht:cur.take m=R):
  ((cur.take (o+3)++R.drop o++cur.drop (o+3+(R.drop o).length)).take o++U++(cur.take (o+3)++R.drop o++cur.drop (o+3+(R.drop o).length)).drop (o+U.length)).take (m+3)=R.take o++U++R.drop o:=by
 have l1:(cur.take (o+3)).length=o+3:=by rw[List.length_take];omega
 have a:(cur.take (o+3)++R.drop o++cur.drop (o+3+(R.drop o).length)).take o=R.take o:=by
  rw[List.append_assoc,List.take_append_of_le_length (by omega),List.take_take,Nat.min_eq_left (by omega),<-ht,List.take_take,Nat.min_eq_left (by omega)]
 have b:(cur.take (o+3)++R.drop o++cur.drop (o+3+(R.drop o).length)).drop (o+U.length)=R.drop o++cur.drop (o+3+(R.drop o).length):=by
  rw[List.append_assoc,hU];exact List.drop_left' l1
 rw[a,b,<-List.append_assoc];refine List.take_left' ?_;simp only[List.length_append,List.length_take,List.length_drop,hU];omega
theorem V6{α:Type}(ROW R U:List α)(o m:Nat)(hi:o<m)(hR:R.length=m)(hU:U.length=3)(hc:m+3<=ROW.length)(ht:ROW.take o=R.take o):
  ((ROW.take o++U++ROW.drop (o+U.length)).take (o+3)++R.drop o++(ROW.take o++U++ROW.drop (o+U.length)).drop (o+3+(R.drop o).length)).take (m+3)=R.take o++U++R.drop o:=by
 have l1:(ROW.take o++U).length=o+3:=by rw[List.length_append,List.length_take,hU];omega
 have a:(ROW.take o++U++ROW.drop (o+U.length)).take (o+3)=R.take o++U:=by rw[List.take_left' l1,ht]
 rw[a];refine List.take_left' ?_;simp only[List.length_append,List.length_take,List.length_drop,hU];omega
theorem xH(l:List Bi)(i:Nat):aI bR (l.take i)=(aI bR l).take (i*3):=by
 conv=>rhs;rw[<-List.take_append_drop i l,bV]
 by_cases h:i<=l.length
 ·rw[List.take_left' (by rw[bq dJ,List.length_take];omega)]
 ·rw[List.drop_eq_nil_of_le (by omega),List.take_of_length_le (i:=i) (by omega)]
  simp only[aI,List.flatMap_nil,List.append_nil];rw[List.take_of_length_le];have:=bq dJ l;unfold aI at this;omega
theorem ER(l:List Bi)(i:Nat)(h:i<=l.length):aI bR (l.drop i)=(aI bR l).drop (i*3):=by
 conv=>rhs;rw[<-List.take_append_drop i l,bV]
 rw[List.drop_left' (by rw[bq dJ,List.length_take];omega)]
theorem Q6(dv:Value)(ds:List Bi)(d:Bi)(vb i:Nat)(w:World)(h:Sl 227 bR 3 0 w dv ds)(hv:w.heap[vb]?=some (.cells (bR d).toArray 227 (0,0)))(hne:dv.ownBlock≠some vb)(hl:ds.length<=40)(hi:i<=ds.length):
  Calls Tryz.prog 172 #[dv,.int .i64 i,.slice (some ⟨vb,0,none⟩) 1 1] w (zq dv (ds.take i++[d]++ds.drop i) w):=by
 by_cases hie:i=ds.length
 ·subst hie
  rw[List.take_length,List.drop_length,List.append_nil];exact Q0 dv ds d vb w h hv hl
 ·rcases h.form with⟨_,rfl⟩|⟨g,cap,rfl,_,cur,hg,h1,h2,h3,h4⟩
  ·exact absurd (Nat.le_zero.1 hi) hie
  ·have hlt:i<ds.length:=by omega
   have hcl:(aI bR ds).length=ds.length*3:=bq dJ ds;have h1c: ∀v∈aI bR ds,v.oneCell'=true:=su sM.one ds;have hgn:vb≠g:=fun e=>hne (by rw[e];rfl)
   have hc63:cap<=9223372036854775807:=by unfold maxLen at h2;omega
   have hlg:g<w.heap.size:=aj hg;have hnew:aI bR (ds.take i++[d]++ds.drop i)=(aI bR ds).take (i*3)++bR d++(aI bR ds).drop (i*3):=by
    rw[bV,bV,xH,ER _ _ (by omega)];simp[aI]
   have hnl:(ds.take i++[d]++ds.drop i).length=ds.length+1:=by simp;omega
   have K7: ∀v∈bR d,v.oneCell'=true:=sM.one d;have e3:(i+1)*3=i*3+3:=by omega
   have e4:(ds.length+1)*3=ds.length*3+3:=by omega
   by_cases hroom:ds.length+1<=cap
   ·refine(IE g ds.length cap i vb (aI bR ds) (bR d) w hlt hroom hl hc63 hgn cur hg h3 hcl h4 h1c K7 rfl hv).mono ?_
    rintro e w' ⟨rfl,rfl⟩;obtain⟨c1,k1,k2,k3⟩:=dM ((aI bR ds).drop (i*3)) ((i+1)*3) w.drew cur hg (by rw[List.length_drop,hcl];omega);obtain⟨c2,m1,m2,m3⟩:=dM (bR d) (i*3) _ c1 k1 (by rw[dJ,k2,h3];omega);have hO:ai [g] w ((w.drew.setCells g ((i+1)*3) ((aI bR ds).drop (i*3))).setCells g (i*3) (bR d)):=dN (by simp) _ _ (dN (by simp) _ _ ((ai.refl _ _).drew));refine⟨_,rfl,⟨by rw[hnew,hnl];simp only[List.length_append,List.length_take,List.length_drop,dJ,hcl];omega,.inr ⟨g,cap,c2,by rw[hnl],Nat.zero_le _,m1,by rw[hnl];exact hroom,h2,by rw[m2,k2,h3],?_⟩⟩,hO,fun q hq=>.inl hq⟩;rw[hnl,hnew,m3,k3,e3,e4];exact Q5 cur.toList (aI bR ds) (bR d) (i*3) (ds.length*3) (by omega) hcl (dJ d) (by simp[h3];omega) h4
   ·refine(MH g ds.length cap i vb (aI bR ds) (bR d) w hlt h1 (by omega) hl cur hg hcl h4 h1c K7 rfl hv).mono ?_
    rintro e w' ⟨G,ROW,hG,Uz,hRs,Gg,rfl,rfl⟩;obtain⟨c1,k1,k2,k3⟩:=dM (bR d) (i*3) ((w.alloc (.cells ROW 227)).drew) ROW (heap_alloc_new w _) (by rw[dJ,hRs];omega);obtain⟨c2,m1,m2,m3⟩:=dM ((aI bR ds).drop (i*3)) ((i+1)*3) (((w.alloc (.cells ROW 227)).drew.setCells w.heap.size (i*3) (bR d)).drew) c1 k1 (by rw[List.length_drop,hcl,k2,hRs];omega);have iE:ai [w.heap.size] (w.alloc (.cells ROW 227)) ((((w.alloc (.cells ROW 227)).drew.setCells w.heap.size (i*3) (bR d)).drew).setCells w.heap.size ((i+1)*3) ((aI bR ds).drop (i*3))):=
     dN (by simp) _ _ ((dN (by simp) _ _ ((ai.refl _ _).drew)).drew)
    have hO:ai (Value.slice (some ⟨g,0,none⟩) ds.length cap).ownBlock.toList w ((((w.alloc (.cells ROW 227)).drew.setCells w.heap.size (i*3) (bR d)).drew).setCells w.heap.size ((i+1)*3) ((aI bR ds).drop (i*3))):=
     ((ai.refl _ _).alloc _).trans' iE (fun x hx=>.inr (by simp at hx;omega))
    refine⟨_,rfl,⟨by rw[hnew,hnl];simp only[List.length_append,List.length_take,List.length_drop,dJ,hcl];omega,.inr ⟨w.heap.size,G,c2,by rw[hnl],Nat.zero_le _,m1,by rw[hnl];exact hG,Uz,by rw[m2,k2,hRs],?_⟩⟩,hO,fun q hq=>.inr (by simp[Value.ownBlock]at hq;omega)⟩;rw[hnl,hnew,m3,k3,e3,e4];exact V6 ROW.toList (aI bR ds) (bR d) (i*3) (ds.length*3) (by omega) hcl (dJ d) (by simp[hRs];omega) Gg
end Go.Proofs.YtedcakchekaemaaGreatDoor
namespace Go.Proofs.YtedcakchekaemaaGreatDoor
open Go.RowKit
variable [Kd]
def ax:ByteArray:=⟨#[]⟩
theorem MI:Tryz.prog.cellsOf 9=1:=by kernel_rfl
theorem Bj:Tryz.prog.plainKey 9=true:=by kernel_rfl
theorem KL(a b c d:ByteArray)(w:World):(binOp .eql 225 (.agg #[.string a,.string b]) (.agg #[.string c,.string d])).run Tryz.prog w=.ok (.bool ((a==c)&&(b==d))) w:=by
 obtain⟨i,hi,_⟩:=info_parts QY;rw[run_eql_struct];have h:=run_equalIn_array (P:=Tryz.prog) (w:=w) 9999 (t:=225) (e:=9) (n:=2) (i:=i) #[.string a,.string b] #[.string c,.string d] (by kernel_rfl) hi;show((Op.equalIn (9999+1) _ _ _).run _ _).andThen _=_;rw[h,MI];have p: ∀(u v:ByteArray),(part 9 #[.string u,.string v] 0).run Tryz.prog w=.ok (.string u) w/\(part 9 #[.string u,.string v] 1).run Tryz.prog w=.ok (.string v) w:=fun u v=>⟨run_part_plain w Bj rfl,run_part_plain w Bj rfl⟩
 have se: ∀(u v:ByteArray),(Op.equalIn 9999 9 (.string u) (.string v)).run Tryz.prog w=.ok (u==v) w:=fun u v=>by
  show(Op.equalIn (9998+1) _ (.string u) (.string v)).run _ w=_;rw[run_equalIn_string w 9998 _ u v Tryz.underlying9,beq_toListBytes]
 obtain⟨p1,p2⟩:=p a b;obtain⟨q1,q2⟩:=p c d;have s1:=se a c;have s2:=se b d;clear p se h hi;generalize(a==c)=u at s1⊢;generalize(b==d)=v at s2⊢;show((Op.eqItems 9999 9 1 #[.string a,.string b] #[.string c,.string d] [0,1]).run Tryz.prog w).andThen _=_;simp only[Op.eqItems,Nat.zero_mul,Nat.one_mul,Sem.run_bind,p1,q1,s1,Result.andThen_ok];cases u<;>cases v<;>simp[p1,p2,q1,q2,s2,Result.andThen_ok]
theorem Bl(a b:ByteArray)(w:World):Calls Tryz.prog 182 #[.agg #[.string a,.string b]] w fun e w'=>e=.returned (.bool (b==ax))/\ai [] w w':=by
 have hO:=(ai.refl [] w).alloc (.cells #[.string a,.string b] 225);have hb:=heap_alloc_new w (.cells #[.string a,.string b] 225);have c0:(w.alloc (.cells #[.string a,.string b] 225)).cell? ⟨w.heap.size,0,none⟩=some (.string a):=cell_of_row _ _ 0 _ _ _ hb;have c1:(w.alloc (.cells #[.string a,.string b] 225)).cell? ⟨w.heap.size,1,none⟩=some (.string b):=cell_of_row _ _ 1 _ _ _ hb;have hq:=fun W=>KL a b a ⟨#[]⟩ W
 simp only[beq_self_eq_true,Bool.true_and]at hq;change∀W,_=Result.ok (Value.bool (b==ax)) W at hq;generalize(b==ax)=r at*;change Hid _ at hO;clear hb;go_enter Tryz.func182,Tryz.ntmps182
 go_wp2_with fail
 go_ret
 exact⟨rfl,hO.out⟩
def qO(k x:ByteArray×ByteArray):Bool:=k==x||(k.2==ax&&k.1==x.1)
theorem IG(a b c d:ByteArray)(w:World):Calls Tryz.prog 223 #[.agg #[.string a,.string b],.agg #[.string c,.string d]] w fun e w'=>e=.returned (.bool (qO (a,b) (c,d)))/\ai [] w w':=by
 have hO:=((ai.refl [] w).alloc (.cells #[.string a,.string b] 225)).alloc (.cells #[.string c,.string d] 225);have hb:=((ai.refl [] _).alloc (.cells #[.string c,.string d] 225)).heap (heap_alloc_new w (.cells #[.string a,.string b] 225)) (by simp);have hd:=heap_alloc2_new w (.cells #[.string a,.string b] 225) (.cells #[.string c,.string d] 225);have hq:=fun W=>KL a b c d W
 have cW:=af fun W=>Bl a b W
 have hk:qO (a,b) (c,d)=(((a==c)&&(b==d))||((b==ax)&&(a==c))):=rfl;rw[hk];have hac:(a.toList==c.toList)=(a==c):=(beq_toListBytes _ _).symm;have c0:=cell_of_row _ _ 0 _ _ _ hb;have c1:=cell_of_row _ _ 1 _ _ _ hb;have d0:=cell_of_row _ _ 0 _ _ _ hd;have d1:=cell_of_row _ _ 1 _ _ _ hd;obtain⟨e1,h1⟩: ∃e,((a==c)&&(b==d))=e:=⟨_,rfl⟩;simp only[h1]at hq⊢;generalize(b==ax)=e2 at*;generalize(a==c)=e3 at*;have hbl:=aj hb;have hdl:=aj hd;have hkeep:Hid (∀W,ai [] ((w.alloc (.cells #[.string a,.string b] 225)).alloc (.cells #[.string c,.string d] 225)) W->(W.cell? ⟨w.heap.size,0,none⟩=some (.string a)/\W.cell? ⟨w.heap.size,1,none⟩=some (.string b))/\(W.cell? ⟨w.heap.size+1,0,none⟩=some (.string c)/\W.cell? ⟨w.heap.size+1,1,none⟩=some (.string d))/\ai [] w W):=af fun W ho=>
  ⟨⟨cell_of_row _ _ 0 _ _ _ (ho.heap hb (by simp)),cell_of_row _ _ 1 _ _ _ (ho.heap hb (by simp))⟩,⟨cell_of_row _ _ 0 _ _ _ (ho.heap hd (by simp)),cell_of_row _ _ 1 _ _ _ (ho.heap hd (by simp))⟩,hO.trans ho⟩
 clear h1 hb hd hO hbl hdl;cases e1 with
 |true=>
  go_enter Tryz.func223,Tryz.ntmps223
  go_wp2_with fail
  go_ret
  exact⟨rfl,(hkeep.out _ (ai.refl _ _)).2.2⟩
 |false=>
  cases e2 with
  |false=>
   go_enter Tryz.func223,Tryz.ntmps223
   go_wp2_with(go_at_call 182;(with_reducible refine(cW.out _).mono ?_);rintro e w2 ⟨rfl,hO2⟩;replace hO2:=af hO2)
   go_ret
   exact⟨rfl,(hkeep.out _ hO2.out).2.2⟩
  |true=>
   go_enter Tryz.func223,Tryz.ntmps223
   go_wp2_with(go_at_call 182;(with_reducible refine(cW.out _).mono ?_);rintro e w2 ⟨rfl,hO2⟩;obtain⟨⟨x0,x1⟩,⟨y0,y1⟩,hO3⟩:=hkeep.out _ hO2;replace hO3:=af hO3;clear hO2)
   go_ret
   exact⟨rfl,hO3.out⟩
theorem II{w:World}{b:Nat}{x0 x1:Value}{T:TypeId}(h:w.heap[b]?=some (.cells #[x0,x1] T (0,0))):
  (w.cell? ⟨b,0,none⟩=some x0/\w.cell? ⟨b,1,none⟩=some x1)/\w.frozen? ⟨b,0,none⟩=false/\w.frozen? ⟨b,1,none⟩=false/\b<w.heap.size:=
 ⟨⟨cell_of_row _ _ 0 _ _ _ h,cell_of_row _ _ 1 _ _ _ h⟩,frozen_of_row w b 0 _ _ h,frozen_of_row w b 1 _ _ h,aj h⟩
theorem s2q{w:World}{b:Nat}{x0 x1:Value}{T:TypeId}(h:w.heap[b]?=some (.cells #[x0,x1] T (0,0)))(u0 u1:Value):
  ((w.setCell ⟨b,0,none⟩ u0).setCell ⟨b,1,none⟩ u1).heap[b]?=some (.cells #[u0,u1] T (0,0))/\ai [b] w ((w.setCell ⟨b,0,none⟩ u0).setCell ⟨b,1,none⟩ u1):=by
 have h1:=heap_setCell_same w b 0 _ T u0 h;have h2:=heap_setCell_same _ b 1 _ T u1 h1;exact⟨by simpa using h2,((ai.refl [b] w).setCell (.inl (by simp)) _).setCell (.inl (by simp)) _⟩
def fA(x:Bi):ByteArray:=if(x.k1==ax)=true then x.k0 else x.k1
def Q7(x:Bi):Value:=.agg #[.string (fA x),.string x.t]
theorem Q8(x:Bi)(w:World):Calls Tryz.prog 115 #[.agg (bR x).toArray] w fun e w'=>e=.returned (Q7 x)/\ai [] w w':=by
 obtain⟨a,b,t⟩:=x;unfold Q7 fA bR;simp only;have hO:=((ai.refl [] w).alloc (.cells #[.string a,.string b,.string t] 227)).alloc (.cells #[.string ⟨#[]⟩,.string ⟨#[]⟩] 43);have hb:=((ai.refl [] _).alloc (.cells #[.string ⟨#[]⟩,.string ⟨#[]⟩] 43)).heap (heap_alloc_new w (.cells #[.string a,.string b,.string t] 227)) (by simp);have hd:=heap_alloc2_new w (.cells #[.string a,.string b,.string t] 227) (.cells #[.string ⟨#[]⟩,.string ⟨#[]⟩] 43);have cW:=af fun W=>Bl a b W
 generalize(b==ax)=e2 at*;have c0:=cell_of_row _ _ 0 _ _ _ hb;have c1:=cell_of_row _ _ 1 _ _ _ hb;have hkeep:Hid (∀W,ai [] ((w.alloc (.cells #[.string a,.string b,.string t] 227)).alloc (.cells #[.string ⟨#[]⟩,.string ⟨#[]⟩] 43)) W->(W.heap[w.heap.size]?=some (.cells #[.string a,.string b,.string t] 227 (0,0))/\W.heap[w.heap.size+1]?=some (.cells #[.string ⟨#[]⟩,.string ⟨#[]⟩] 43 (0,0)))/\ai [] w W):=af fun W ho=>⟨⟨ho.heap hb (by simp),ho.heap hd (by simp)⟩,hO.trans ho⟩
 clear hb hd hO;go_enter Tryz.func115,Tryz.ntmps115
 go_wp2_with fail
 refine(cW.out _).mono ?_;rintro e w2 ⟨rfl,hO2⟩;obtain⟨⟨hb,hd⟩,hO3⟩:=hkeep.out _ hO2;obtain⟨x0,x1,x2⟩:w2.cell? ⟨w.heap.size,0,none⟩=some (.string a)/\w2.cell? ⟨w.heap.size,1,none⟩=some (.string b)/\w2.cell? ⟨w.heap.size,2,none⟩=some (.string t):=⟨cell_of_row _ _ 0 _ _ _ hb,cell_of_row _ _ 1 _ _ _ hb,cell_of_row _ _ 2 _ _ _ hb⟩;obtain⟨⟨y0,y1⟩,z0,z1,_⟩:=II hd;clear c0 c1 cW hkeep hO2 hb;cases e2 with
 |true=>
  obtain⟨hs,hso⟩:=s2q hd (.string a) (.string t);change Hid _ at hs;replace hso:=af (hO3.trans' hso (fun x hx=>.inr (by simp at hx;omega)));clear hd hO3;go_wp2_with fail
  obtain⟨⟨g0,g1⟩,_⟩:=II hs.out;exact bodyPost_ret (v:=.agg #[.string a,.string t]) (by simp[results,Tryz.results115,go_sem,g0,g1];try rfl) rfl ⟨rfl,hso.out⟩
 |false=>
  obtain⟨hs,hso⟩:=s2q hd (.string b) (.string t);change Hid _ at hs;replace hso:=af (hO3.trans' hso (fun x hx=>.inr (by simp at hx;omega)));clear hd hO3;go_wp2_with fail
  obtain⟨⟨g0,g1⟩,_⟩:=II hs.out;exact bodyPost_ret (v:=.agg #[.string b,.string t]) (by simp[results,Tryz.results115,go_sem,g0,g1];try rfl) rfl ⟨rfl,hso.out⟩
theorem Bn(d:ByteArray):(d==ax)=d.toList.isEmpty:=by
 rw[beq_toListBytes,show ax.toList=[]by rw[Lib.toList_data];rfl];cases d.toList<;>rfl
def bZ(s:jv):ByteArray×ByteArray:=
 if(fE s).2≠0\/s.k=9 then(ax,ax)else if(fE ⟨1,s.g,s.n,ax⟩).2≠0 then(ax,ax)
 else if(s.d==ax)=true then((fE ⟨1,s.g,s.n,ax⟩).1,ax)else if(fE ⟨5,s.g,s.n,s.d⟩).2≠0 then(ax,ax)else((fE ⟨1,s.g,s.n,ax⟩).1,(fE ⟨5,s.g,s.n,s.d⟩).1)
theorem xI(s:jv)(w:World)(hW:dL w)(hT:ko w)(hM:qV w):Calls Tryz.prog 97 #[.agg #[.int .i64 s.k,.string s.g,.string s.n,.string s.d]] w fun e w'=>e=.returned (.tuple #[.string (bZ s).1,.string (bZ s).2])/\ai [] w w':=by
 obtain⟨k,g,n,d⟩:=s;obtain⟨R,hR⟩: ∃R,bZ ⟨k,g,n,d⟩=R:=⟨_,rfl⟩;rw[hR];unfold bZ at hR;simp only at hR;have hA:=(ai.refl [] w).alloc (.cells #[.int .i64 k,.string g,.string n,.string d] 76);have hb:=heap_alloc_new w (.cells #[.int .i64 k,.string g,.string n,.string d] 76);have hkeep:Hid (∀W,ai [] (w.alloc (.cells #[.int .i64 k,.string g,.string n,.string d] 76)) W->W.heap[w.heap.size]?=some (.cells #[.int .i64 k,.string g,.string n,.string d] 76 (0,0))/\ai [] w W):=af fun W ho=>⟨ho.heap hb (by simp),hA.trans ho⟩
 have cP:=af fun s W (ho:ai [] w W)=>Ki s W (hW.own ho) (hT.own (S:=[]) ho (by simp)) (hM.own ho)
 have hdd:d.toList.isEmpty=(d==ax):=(Bn d).symm;obtain⟨⟨c0,c1,c2,c3⟩,-⟩:=q4 hb;generalize(d==ax)=e0 at*;have Pd:=cP.out ⟨k,g,n,d⟩ _ hA;clear hb;generalize hp1:fE ⟨k,g,n,d⟩=r1 at*;obtain⟨t1,e1⟩:=r1;unfold GK at Pd;simp only at Pd hR;change Hid _ at hR;replace Pd:=af Pd;go_enter Tryz.func97,Tryz.ntmps97
 go_wp2_with fail
 refine Pd.out.mono ?_;rintro e w2 ⟨rfl,hO2⟩;obtain⟨hb2,og⟩:=hkeep.out _ hO2;obtain⟨⟨d0,d1,d2,d3⟩,-⟩:=q4 hb2;clear Pd c0 c1 c2 c3 hO2;by_cases h1:e1≠0
 ·have hR':=hR.out
  rw[if_pos (.inl h1)]at hR';subst hR';have q:(e1 !=0)=true:=by simpa using h1
  change Hid _ at og;clear h1 hp1;go_wp2_with fail
  go_ret2
  exact⟨rfl,og.out⟩
 have q1:(e1 !=0)=false:=by simpa using h1
 by_cases h9:k=9
 ·have hR':=hR.out
  rw[if_pos (.inr h9)]at hR';subst hR';have q:(k==9)=true:=by simpa using h9
  change Hid _ at og;clear h1 hp1 h9;go_wp2_with fail
  go_ret2
  exact⟨rfl,og.out⟩
 have hR2:=hR.out;rw[if_neg (by simp[h1,h9])]at hR2;replace hR:=af hR2;clear hR2;have q9:(k==9)=false:=by simpa using h9
 have Gb:=cP.out ⟨1,g,n,ax⟩ _ og;replace hR:=hR.out;generalize hp2:fE ⟨1,g,n,ax⟩=r2 at*;obtain⟨t2,e2⟩:=r2;simp only at hR;change Hid _ at hR;unfold GK at Gb;simp only at Gb;change Calls Tryz.prog 52 #[.agg #[.int .i64 1,.string g,.string n,.string ⟨#[]⟩]] w2 _ at Gb;replace Gb:=af Gb;clear h1 h9 hp1 hp2;go_wp2_with fail
 refine Gb.out.mono ?_;rintro e w3 ⟨rfl,hO3⟩;have hb3:=hO3.heap hb2 (by simp);have dZ:=og.trans hO3;obtain⟨⟨f0,f1,f2,f3⟩,-⟩:=q4 hb3;clear Gb d0 d1 d2 d3 hb2 og hO3;by_cases h2:e2≠0
 ·have hR':=hR.out
  rw[if_pos h2]at hR';subst hR';have q:(e2 !=0)=true:=by simpa using h2
  change Hid _ at dZ;clear h2;go_wp2_with fail
  go_ret2
  exact⟨rfl,dZ.out⟩
 have hR2:=hR.out;rw[if_neg h2]at hR2;replace hR:=af hR2;clear hR2;have q2:(e2 !=0)=false:=by simpa using h2
 clear h2;cases e0 with
 |true=>
  have hR':=hR.out;rw[if_pos rfl]at hR';subst hR';change Hid _ at dZ;go_wp2_with fail
  go_ret2
  exact⟨rfl,dZ.out⟩
 |false=>
  have hR2:=hR.out;rw[if_neg (by simp)]at hR2;replace hR:=af hR2;clear hR2;have cP3:=cP.out ⟨5,g,n,d⟩ _ dZ;replace hR:=hR.out;generalize hp3:fE ⟨5,g,n,d⟩=r3 at*;obtain⟨t3,e3⟩:=r3;simp only at hR;change Hid _ at hR;unfold GK at cP3;simp only at cP3;replace cP3:=af cP3;clear hp3;go_wp2_with fail
  refine cP3.out.mono ?_;rintro e w4 ⟨rfl,hO4⟩;have uP:=dZ.trans hO4;change Hid _ at uP;clear cP3 hO4 dZ f0 f1 f2 f3 hb3;by_cases h3:e3≠0
  ·have hR':=hR.out
   rw[if_pos h3]at hR';subst hR';have q:(e3 !=0)=true:=by simpa using h3
   clear h3;go_wp2_with fail
   go_ret2
   exact⟨rfl,uP.out⟩
  ·have hR':=hR.out
   rw[if_neg h3]at hR';subst hR';have q:(e3 !=0)=false:=by simpa using h3
   clear h3;go_wp2_with fail
   go_ret2
   exact⟨rfl,uP.out⟩
def gW(t:ByteArray):(ByteArray×ByteArray)×Bool:=
 if(bQ t).k=1 then((t,ax),true)else if(bQ t).k=5 then(((bZ (bQ t)).1,t),!((bZ (bQ t)).1==ax))else((ax,ax),false)
theorem zu(t:ByteArray)(w:World)(hs:t.size<=1048576)(hW:dL w)(hT:ko w)(hM:qV w):Calls Tryz.prog 169 #[.string t] w fun e w'=>e=.returned (.tuple #[.agg #[.string (gW t).1.1,.string (gW t).1.2],.bool (gW t).2])/\ai [] w w':=by
 obtain⟨R,hR⟩: ∃R,gW t=R:=⟨_,rfl⟩;rw[hR];unfold gW at hR;have hA:=(ai.refl [] w).alloc (.cells #[.string ⟨#[]⟩,.string ⟨#[]⟩] 225);have hb:=heap_alloc_new w (.cells #[.string ⟨#[]⟩,.string ⟨#[]⟩] 225);have cO:=af (yO t _ hs (hW.own hA) (hT.own (S:=[]) hA (by simp)) (hM.own hA));have cB:=af fun s W (ho:ai [] w W)=>xI s W (hW.own ho) (hT.own (S:=[]) ho (by simp)) (hM.own ho)
 generalize bQ t=S at*;obtain⟨k,g,n,d⟩:=S;go_enter Tryz.func169,Tryz.ntmps169
 go_wp2_with fail
 refine cO.out.mono ?_;rintro e w2 ⟨hsp,hO2⟩;unfold vz at hsp;subst hsp;simp only;have hb2:=hO2.heap hb (by simp);have og:=hA.trans hO2;have hA2:=(ai.refl [] w2).alloc (.cells #[.int .i64 k,.string g,.string n,.string d] 76);have hbs:=heap_alloc_new w2 (.cells #[.int .i64 k,.string g,.string n,.string d] 76);have hb3:=hA2.heap hb2 (by simp);have dZ:=og.trans hA2;clear cO hb hA hO2 hb2 og;go_upto_region 2 with(fail)
 generalize(w2.alloc (.cells #[.int .i64 k,.string g,.string n,.string d] 76))=w3 at*;generalize hsb:w2.heap.size=sb at*;obtain⟨⟨c0,c1,c2,c3⟩,-⟩:=q4 hbs;obtain⟨⟨x0,x1⟩,z0,z1,hrl⟩:=II hb3;obtain⟨rb,hrb⟩: ∃rb,rb=w.heap.size:=⟨_,rfl⟩;have hrw:w.heap.size<=rb:=by omega
 rw[<-hrb]at hb3 x0 x1 z0 z1 hrl⊢;change Hid _ at hrb;clear hA2 hsb;by_cases k1:k=1
 ·rw[if_pos k1]at hR
  subst hR;subst k1;obtain⟨hs,hso⟩:=s2q hb3 (.string t) (.string ⟨#[]⟩);change Hid _ at hs;replace hso:=af (dZ.trans' hso (fun x hx=>.inr (by simp at hx;omega)));clear hb3 dZ;go_wp2_with fail
  obtain⟨⟨g0,g1⟩,_⟩:=II hs.out;exact bodyPost_ret (v:=.tuple #[.agg #[.string t,.string ⟨#[]⟩],.bool true]) (by simp[results,Tryz.results169,go_sem,g0,g1];try rfl) rfl ⟨rfl,hso.out⟩
 rw[if_neg k1]at hR;have q1:(k==1)=false:=by simpa using k1
 by_cases k5:k=5
 ·rw[if_pos k5]at hR
  have cB3:=cB.out ⟨k,g,n,d⟩ w3 dZ;subst k5;generalize bZ ⟨5,g,n,d⟩=tb at*;obtain⟨tn,td⟩:=tb;simp only at hR;have hdd:tn.toList.isEmpty=(tn==ax):=(Bn tn).symm;generalize(tn==ax)=e0 at*;subst hR;simp only at cB3;replace cB3:=af cB3;clear k1;go_wp2_with fail
  refine cB3.out.mono ?_;rintro e w4 ⟨rfl,hO4⟩;have hb4:=hO4.heap hb3 (by simp);have uP:=dZ.trans hO4;obtain⟨⟨y0,y1⟩,v0,v1,_⟩:=II hb4;obtain⟨hs,hso⟩:=s2q hb4 (.string tn) (.string t);change Hid _ at hs;replace hso:=af (uP.trans' hso (fun x hx=>.inr (by simp at hx;omega)));clear hb3 dZ hb4 uP hO4 cB3 x0 x1 z0 z1 c0 c1 c2 c3 hbs;go_wp2_with fail
  obtain⟨⟨g0,g1⟩,_⟩:=II hs.out;exact bodyPost_ret (v:=.tuple #[.agg #[.string tn,.string t],.bool (!e0)]) (by simp[results,Tryz.results169,go_sem,g0,g1];try rfl) rfl ⟨rfl,hso.out⟩
 rw[if_neg k5]at hR;subst hR;have q5:(k==5)=false:=by simpa using k5
 obtain⟨hs,hso⟩:=s2q hb3 (.string ⟨#[]⟩) (.string ⟨#[]⟩);change Hid _ at hs;replace hso:=af (dZ.trans' hso (fun x hx=>.inr (by simp at hx;omega)));clear hb3 dZ k1 k5;go_wp2_with fail
 obtain⟨⟨g0,g1⟩,_⟩:=II hs.out;exact bodyPost_ret (v:=.tuple #[.agg #[.string ⟨#[]⟩,.string ⟨#[]⟩],.bool false]) (by simp[results,Tryz.results169,go_sem,g0,g1];try rfl) rfl ⟨rfl,hso.out⟩
def rJ(k:ByteArray×ByteArray)(x:Bi):Bool:=qO k (x.k0,x.k1)
theorem Bo(k:ByteArray×ByteArray)(kb:Nat)(x:Bi)(w:World)(h:w.heap[kb]?=some (.cells #[.string k.1,.string k.2] 225 (0,0))):
  Calls Tryz.prog 222 #[.agg (bR x).toArray,aN kb] w fun e w'=>e=.returned (.bool (rJ k x))/\ai [] w w':=by
 obtain⟨a,b⟩:=k;obtain⟨c,d,t⟩:=x;unfold rJ bR;simp only at h⊢;have hA:=(ai.refl [] w).alloc (.cells #[.string c,.string d,.string t] 227);have hbx:=heap_alloc_new w (.cells #[.string c,.string d,.string t] 227);have hk:=hA.heap h (by simp);have cC:=af fun W=>IG a b c d W
 obtain⟨⟨k0,k1⟩,_⟩:=II hk;have x0:(w.alloc (.cells #[.string c,.string d,.string t] 227)).cell? ⟨w.heap.size,0,none⟩=some (.string c):=cell_of_row _ _ 0 _ _ _ hbx;have x1:(w.alloc (.cells #[.string c,.string d,.string t] 227)).cell? ⟨w.heap.size,1,none⟩=some (.string d):=cell_of_row _ _ 1 _ _ _ hbx;generalize qO (a,b) (c,d)=r at*;replace hA:=af hA;clear h hbx hk;go_enter Tryz.func222,Tryz.ntmps222
 go_wp2_with fail
 refine(cC.out _).mono ?_;rintro e w2 ⟨rfl,hO2⟩;replace hO2:=af (hA.out.trans hO2);clear cC;go_wp2_with fail
 go_ret
 exact⟨rfl,hO2.out⟩
theorem aG.biAt{w:World}{a:Option Addr}{n c:Nat}{l:List Bi}(h:aG bR w (.slice a n c) l){k:Nat}(hk:k<l.length):
  ∃b o,a=some ⟨b,o,none⟩/\w.cell? ⟨b,o+k*3,none⟩=some (.string l[k].k0)/\w.cell? ⟨b,o+k*3+1,none⟩=some (.string l[k].k1)/\w.cell? ⟨b,o+k*3+2,none⟩=some (.string l[k].t):=by
 obtain⟨b,o,rfl,hx⟩:=h.at_ dJ (by omega);have e:=List.getElem?_eq_getElem hk;refine⟨b,o,rfl,hx k _ 0 _ e rfl,?_,?_⟩
 ·have:=hx k _ 1 _ e rfl;rwa[<-Nat.add_assoc]at this
 ·have:=hx k _ 2 _ e rfl;rwa[<-Nat.add_assoc]at this
def IJ(k:ByteArray×ByteArray)(L:List Bi):Int:=match L.findIdx? (rJ k)with
 |some i=>i
 |none=> -1
def wR(w:World)(kb:Nat)(k:ByteArray×ByteArray):Prop:=w.heap[kb]?=some (.cells #[.string k.1,.string k.2] 225 (0,0))
theorem wR.own{S:List Nat}{w w':World}{kb:Nat}{k:ByteArray×ByteArray}(h:wR w kb k)(ho:ai S w w')(hb:kb∉S):wR w' kb k:=ai.heap ho h hb
theorem Q9(k:ByteArray×ByteArray)(kb:Nat)(v:Value)(L:List Bi)(w:World)(h:aG bR w v L)(hk:wR w kb k)(hl:L.length<=40):
  Calls Tryz.prog 276 #[v,.func (.func 222) #[] #[aN kb]] w fun e w'=>e=.returned (.int .i64 (IJ k L))/\ai [] w w':=by
 obtain⟨va,vc,rfl⟩:=h.form;have uO:=af h;have hkh:=af hk;obtain⟨R,hR⟩: ∃R,IJ k L=R:=⟨_,rfl⟩;rw[hR];unfold IJ at hR;change Hid _ at hR;clear h hk;go_enter Tryz.func276,Tryz.ntmps276
 go_wp2_with fail
 go_loopg[8] L.length (fun gg s8 wr=> ∃j:Nat,j<=L.length/\gg=L.length-j/\s8=.int .i64 j/\Aside (ai [] w wr/\ ∀i (hi:i<L.length),i<j->rJ k L[i]=false))
 case atStart=>exact⟨0,by omega,by omega,rfl,ai.refl _ _,fun i _ hi=>absurd hi (by omega)⟩
 case round=>
  obtain⟨j,hj,rfl,rfl,hO,hno⟩:=hrel;have j0:(0:Int)<=j:=by omega
  by_cases hlt:j<L.length
  ·have j1:(j:Int)<L.length:=by omega
   have hwj:IntKind.i64.wrap ((j:Int)+1)=(j:Int)+1:=IntWalk.i64_in _ (by omega);obtain⟨b1,o1,rfl,c0,c1,c2⟩:=(uO.out.nil' hO).biAt hlt;have cL:=Bo k kb L[j] wr (hkh.out.own hO (by simp));have Gh:rJ k L[j]=true->R=j:=fun hh=>by
    rw[<-hR.out,show L.findIdx? (rJ k)=some j from List.findIdx?_eq_some_iff_getElem.2 ⟨hlt,hh,fun i hi=>by simp[hno i (by omega) hi]⟩]
   have hnx:rJ k L[j]=false-> ∀i (hi:i<L.length),i<j+1->rJ k L[i]=false:=fun hh i hi hij=>by
    rcases Nat.lt_or_ge i j with h1|h1
    ·exact hno i hi h1
    ·obtain rfl:i=j:=by omega
     exact hh
   generalize L[j]=x at*;generalize hr:rJ k x=r at*;obtain⟨x0,x1,x2⟩:=x;unfold bR at cL;simp only at cL c0 c1 c2;replace cL:=af cL;cases r with
   |true=>
    have hR':=Gh rfl;subst hR';clear Gh hnx hno hr;go_wp2_with fail
    refine cL.out.mono ?_;rintro e w2 ⟨rfl,hO2⟩;replace hO2:=af (hO.trans hO2);clear cL;go_wp2_with fail
    go_ret
    exact⟨rfl,hO2.out⟩
   |false=>
    replace hnx:=af (hnx rfl);clear Gh hno hr;go_wp2_with fail
    refine cL.out.mono ?_;rintro e w2 ⟨rfl,hO2⟩;replace hO2:=af (hO.trans hO2);clear cL;go_wp2_with fail
    go_roundg(L.length-(j+1))
    case measure=>omega
    case rel=>exact⟨j+1,by omega,rfl,by simp,hO2.out,hnx.out⟩
  ·have j1: ¬(j:Int)<L.length:=by omega
   have hR':R= -1:=by
    rw[<-hR.out,show L.findIdx? (rJ k)=none from List.findIdx?_eq_none_iff.2 (fun x hx=>by
     obtain⟨i,hi,rfl⟩:=List.getElem_of_mem hx;exact hno i hi (by omega))]
   subst hR';change Hid _ at hO;clear hno;go_wp2_with fail
   go_ret
   exact⟨rfl,hO.out⟩
theorem ES{P:Program}(w:World)(t e ty:TypeId)(z:Value)(ht:P.underlying t=some (.slice e))(hv: ∀w,(zeroValue e).run P w=.ok z w)(b o n c:Nat)(hn:0<n)
  (hc: ∀j,j<(Builtin.zeroCells z.cells n).toList.length->(w.cell? ⟨b,o+j,none⟩).isSome=true)(hf: ∀j,j<(Builtin.zeroCells z.cells n).toList.length->w.frozen? ⟨b,o+j,none⟩=false)(h1: ∀v∈(Builtin.zeroCells z.cells n).toList,v.oneCell'=true):
  (Builtin.clear_ #[t] ty #[.slice (some ⟨b,o,none⟩) n c]).run P w=.ok (.tuple #[]) (w.setCells b o (Builtin.zeroCells z.cells n).toList):=by
 have hst:=run_storeCells_cells (P:=P) b o (Builtin.zeroCells z.cells n).toList 0 w (by simpa using hc) (by simpa using hf) h1;simp only[Nat.add_zero]at hst;obtain⟨m,rfl⟩: ∃m,n=m+1:=⟨n-1,by omega⟩;simp[Builtin.clear_,run_underlying ht,hv,hst]
def rM:Value:=.agg #[.string ⟨#[]⟩,.string ⟨#[]⟩,.string ⟨#[]⟩]
theorem MJ(w:World):(zeroValue 227).run Tryz.prog w=.ok rM w:=by kernel_rfl
theorem MK(n:Nat):(Builtin.zeroCells rM.cells n).toList.length=n*3:=by simp[Builtin.zeroCells,rM,Value.cells]
theorem ML(n:Nat): ∀v∈(Builtin.zeroCells rM.cells n).toList,v.oneCell'=true:=by
 intro v hv;simp[Builtin.zeroCells,rM,Value.cells]at hv;obtain⟨i,hi,rfl⟩:=hv;have:i%3=0\/i%3=1\/i%3=2:=by omega
 rcases this with h|h|h<;>simp[h]<;>rfl
theorem MN{α:Type}(l:List α)(o:Nat)(a b c:α)(h:o+3<=l.length):(((l.set o a).set (o+1) b).set (o+2) c).take (o+3)=l.take o++[a,b,c]:=by
 apply List.ext_getElem?;intro n;have hl:(l.take o).length=o:=by rw[List.length_take];omega
 rw[List.getElem?_take];by_cases h1:n<o
 ·rw[if_pos (by omega),List.getElem?_append_left (by omega),List.getElem?_set,List.getElem?_set,List.getElem?_set,List.getElem?_take,if_neg (by omega),if_neg (by omega),if_neg (by omega),if_pos h1]
 ·rw[List.getElem?_append_right (by omega),hl]
  by_cases h2:n<o+3
  ·rw[if_pos h2,List.getElem?_set,List.getElem?_set,List.getElem?_set]
   have:n=o\/n=o+1\/n=o+2:=by omega
   rcases this with rfl|rfl|rfl
   ·rw[if_neg (by omega),if_neg (by omega),if_pos rfl,if_pos (by omega),Nat.sub_self];rfl
   ·rw[if_neg (by omega),if_pos rfl,if_pos (by simp;omega),show o+1-o=1 by omega];rfl
   ·rw[if_pos rfl,if_pos (by simp;omega),show o+2-o=2 by omega];rfl
  ·rw[if_neg h2,List.getElem?_eq_none (by simp;omega)]
def dG(k:ByteArray×ByteArray)(L:List Bi):List Bi:=L.filter fun x=> !rJ k x
structure ET (w wr:World) (g cap:Nat) (k:ByteArray×ByteArray) (L:List Bi) (i j:Nat):Prop where
 own:ai [g] w wr
 cur: ∃cur:Array Value,wr.heap[g]?=some (.cells cur 227 (0,0))/\cur.size=cap*3/\cur.toList.take (i*3)=aI bR (dG k (L.take j))/\
  ∀m (hm:m<L.length),j<=m->cur[m*3]?=some (.string L[m].k0)/\cur[m*3+1]?=some (.string L[m].k1)/\cur[m*3+2]?=some (.string L[m].t)
 cnt:i=(dG k (L.take j)).length
 lt:i<j
theorem ET.nil'{w wr w':World}{g cap:Nat}{k:ByteArray×ByteArray}{L:List Bi}{i j:Nat}(h:ET w wr g cap k L i j)(ho:ai [] wr w'):ET w w' g cap k L i j:=by
 obtain⟨h1,⟨cur,h2,h3⟩,h4,h5⟩:=h;exact⟨h1.trans ho.nil,⟨cur,ho.heap h2 (by simp),h3⟩,h4,h5⟩
theorem ET.skip{w wr:World}{g cap:Nat}{k:ByteArray×ByteArray}{L:List Bi}{i j:Nat}(h:ET w wr g cap k L i j)(hj:j<L.length)(hc:rJ k L[j]=true):ET w wr g cap k L i (j+1):=by
 obtain⟨h1,⟨cur,h2,h3,h4,h5⟩,h6,h7⟩:=h;have e:dG k (L.take (j+1))=dG k (L.take j):=by
  unfold dG;rw[List.take_succ_eq_append_getElem hj,List.filter_append];simp[hc]
 exact⟨h1,⟨cur,h2,h3,by rw[e];exact h4,fun m hm hjm=>h5 m hm (by omega)⟩,by rw[e];exact h6,by omega⟩
theorem ET.put{w wr:World}{g cap:Nat}{k:ByteArray×ByteArray}{L:List Bi}{i j:Nat}(h:ET w wr g cap k L i j)(hj:j<L.length)(hn:L.length<=cap)(hc:rJ k L[j]=false):
  ((wr.cell? ⟨g,i*3,none⟩).isSome=true/\(wr.cell? ⟨g,i*3+1,none⟩).isSome=true/\(wr.cell? ⟨g,i*3+2,none⟩).isSome=true)/\
  ET w (((wr.setCell ⟨g,i*3,none⟩ (.string L[j].k0)).setCell ⟨g,i*3+1,none⟩ (.string L[j].k1)).setCell ⟨g,i*3+2,none⟩ (.string L[j].t)) g cap k L (i+1) (j+1):=by
 obtain⟨h1,⟨cur,h2,h3,h4,h5⟩,h6,h7⟩:=h;have e:dG k (L.take (j+1))=dG k (L.take j)++[L[j]]:=by
  unfold dG;rw[List.take_succ_eq_append_getElem hj,List.filter_append];simp[hc]
 have hs: ∀o,o<cap*3->(wr.cell? ⟨g,o,none⟩).isSome=true:=fun o ho=>by
  rw[cell_of_row _ _ _ _ _ _ h2,Array.getElem?_eq_getElem (by omega)];rfl
 have k1:=heap_setCell_same wr g (i*3) _ _ (.string L[j].k0) h2;have k2:=heap_setCell_same _ g (i*3+1) _ _ (.string L[j].k1) k1;have k3:=heap_setCell_same _ g (i*3+2) _ _ (.string L[j].t) k2;refine⟨⟨hs _ (by omega),hs _ (by omega),hs _ (by omega)⟩,((h1.setCell (.inl (by simp)) _).setCell (.inl (by simp)) _).setCell (.inl (by simp)) _,⟨_,k3,by simpa using h3,?_,fun m hm hjm=>?_⟩,by rw[e,List.length_append,List.length_singleton,<-h6],by omega⟩
 ·rw[e,bV,show(i+1)*3=i*3+3 by omega]
  simp only[Array.toList_setIfInBounds];rw[MN _ _ _ _ _ (by simp;omega),h4];simp[aI,bR]
 ·obtain⟨q1,q2,q3⟩:=h5 m hm (by omega)
  simp only[Array.getElem?_setIfInBounds,Array.size_setIfInBounds];refine⟨?_,?_,?_⟩
  ·rw[if_neg (by omega),if_neg (by omega),if_neg (by omega)];exact q1
  ·rw[if_neg (by omega),if_neg (by omega),if_neg (by omega)];exact q2
  ·rw[if_neg (by omega),if_neg (by omega),if_neg (by omega)];exact q3
theorem ET.at'{w wr:World}{g cap:Nat}{k:ByteArray×ByteArray}{L:List Bi}{i j:Nat}(h:ET w wr g cap k L i j)(hj:j<L.length):wr.cell? ⟨g,j*3,none⟩=some (.string L[j].k0)/\wr.cell? ⟨g,j*3+1,none⟩=some (.string L[j].k1)/\wr.cell? ⟨g,j*3+2,none⟩=some (.string L[j].t):=by
 obtain⟨h1,⟨cur,h2,h3,h4,h5⟩,h6,h7⟩:=h;obtain⟨q1,q2,q3⟩:=h5 j hj (Nat.le_refl _);exact⟨by rw[cell_of_row _ _ _ _ _ _ h2];exact q1,by rw[cell_of_row _ _ _ _ _ _ h2];exact q2,by rw[cell_of_row _ _ _ _ _ _ h2];exact q3⟩
theorem ET.fz{w wr:World}{g cap:Nat}{k:ByteArray×ByteArray}{L:List Bi}{i j:Nat}(h:ET w wr g cap k L i j)(o:Nat):wr.frozen? ⟨g,o,none⟩=false:=by
 obtain⟨h1,⟨cur,h2,h3,h4,h5⟩,h6,h7⟩:=h;exact frozen_of_row _ g o _ _ h2
theorem ET.done{w wr:World}{g cap:Nat}{k:ByteArray×ByteArray}{L:List Bi}{i:Nat}(h:ET w wr g cap k L i L.length)(hn:L.length<=cap)(hm:cap<=maxLen):
  (∀c ty,(Builtin.clear_ #[148] ty #[.slice (some ⟨g,i*3,none⟩) (L.length-i) c]).run Tryz.prog wr=.ok (.tuple #[]) (wr.setCells g (i*3) (Builtin.zeroCells rM.cells (L.length-i)).toList))/\
  ai [g] w (wr.setCells g (i*3) (Builtin.zeroCells rM.cells (L.length-i)).toList)/\si 227 bR 3 (wr.setCells g (i*3) (Builtin.zeroCells rM.cells (L.length-i)).toList) g cap (dG k L):=by
 obtain⟨h1,⟨cur,h2,h3,h4,h5⟩,h6,h7⟩:=h;rw[List.take_length]at h4 h6;have hs: ∀o,o<cap*3->(wr.cell? ⟨g,o,none⟩).isSome=true:=fun o ho=>by
  rw[cell_of_row _ _ _ _ _ _ h2,Array.getElem?_eq_getElem (by omega)];rfl
 have hz:=MK (L.length-i);obtain⟨c1,k1,k2,k3⟩:=dM (Builtin.zeroCells rM.cells (L.length-i)).toList (i*3) wr cur h2 (by rw[hz];omega);refine⟨fun c ty=>ES wr _ _ ty rM Tryz.underlying148 MJ g (i*3) (L.length-i) c (by omega) (fun j hj=>hs _ (by rw[hz]at hj;omega)) (fun j _=>frozen_of_row _ g _ _ _ h2) (ML _),dN (by simp) _ _ h1,c1,k1,by omega,hm,by rw[k2,h3],?_⟩;rw[<-h6,k3,List.append_assoc,List.take_append_of_le_length (by rw[List.length_take];simp;omega),List.take_take,Nat.min_self,h4]
theorem Ra(k:ByteArray×ByteArray)(kb base:Nat)(v:Value)(L:List Bi)(w:World)(h:Sl 227 bR 3 base w v L)(hk:wR w kb k)(hne:v.ownBlock≠some kb)(hl:L.length<=40):
  Calls Tryz.prog 221 #[v,.func (.func 222) #[] #[aN kb]] w fun e w'=> ∃v',e=.returned v'/\Sl 227 bR 3 base w' v' (dG k L)/\ai v.ownBlock.toList w w'/\v'.ownBlock=v.ownBlock:=by
 have cI:=Q9 k kb v L w (h.reads dJ) hk hl;cases hfi:L.findIdx? (rJ k)with
 |none=>
  have hke:dG k L=L:=by
   unfold dG;rw[List.filter_eq_self];intro x hx;have:=List.findIdx?_eq_none_iff.1 hfi x hx;simp[this]
  rw[hke];rw[show IJ k L= -1 by unfold IJ;rw[hfi]]at cI;replace cI:=af cI;have hh:=af h;obtain⟨a,c,rfl⟩:=h.sl;clear h hk hne hfi hke;go_enter Tryz.func221,Tryz.ntmps221
  go_wp2_with fail
  refine cI.out.mono ?_;rintro e w2 ⟨rfl,hO2⟩;replace hO2:=af hO2;go_wp2_with fail
  go_ret
  exact⟨_,rfl,hh.out.nil' hO2.out,hO2.out.nil,rfl⟩
 |some i0=>
  obtain⟨hi0,hc0,hb0⟩:=List.findIdx?_eq_some_iff_getElem.1 hfi;rw[show IJ k L=i0 by unfold IJ;rw[hfi]]at cI;rcases h.form with⟨_,h2⟩|⟨g,cap,rfl,hbg,Gc⟩
  ·rw[h2]at hi0;simp at hi0
  have hkg:kb≠g:=fun e=>hne (by rw[e];rfl)
  obtain⟨cur,hg1,hn,hm,hsz,htk⟩:=Gc;have hstart: ∀w1,ai [] w w1->ET w w1 g cap k L i0 (i0+1):=fun w1 ho=>by
   have e:dG k (L.take (i0+1))=L.take i0:=by
    unfold dG;rw[List.take_succ_eq_append_getElem hi0,List.filter_append];rw[List.filter_eq_self.2]
    ·simp[hc0]
    ·intro x hx
     obtain⟨j,hj,rfl⟩:=List.getElem_of_mem hx;rw[List.length_take]at hj;have:=hb0 j (by omega);simp only[List.getElem_take];simpa using this
   refine⟨ho.nil,⟨cur,ho.heap hg1 (by simp),hsz,?_,fun m hm2 _=>?_⟩,by rw[e,List.length_take];omega,by omega⟩
   ·rw[e,xH,<-htk,List.take_take,Nat.min_eq_left (by omega)]
   ·have hc: ∀c u,(bR L[m])[c]?=some u->cur[m*3+c]?=some u:=fun c u hu=>by
     have hcl:=(List.getElem?_eq_some_iff.1 hu).1;rw[dJ]at hcl;have h1:=(fM dJ L m c L[m] (List.getElem?_eq_getElem hm2) hcl).trans hu;rw[<-htk,List.getElem?_take,if_pos (by omega)]at h1;simpa using h1
    exact⟨by simpa using hc 0 _ rfl,hc 1 _ rfl,hc 2 _ rfl⟩
  have aiv:i0<40:=by omega
  have hwi:IntKind.i64.wrap ((i0:Int)+1)=(i0:Int)+1:=IntWalk.i64_in _ (by omega);have hi1:((i0:Int)== -1)=false:=by
   rw[Bool.eq_false_iff];intro hx;have:=LawfulBEq.eq_of_beq hx;omega
  have hkh:=af hk;change Hid _ at hstart;replace cI:=af cI;have hnh:=af hn;have hmh:=af hm;have hlh:=af hl;change Hid _ at hbg hkg;clear h hk hne hfi hc0 hb0 hg1 hn hm hsz htk cur;go_enter Tryz.func221,Tryz.ntmps221
  go_wp2_with fail
  refine cI.out.mono ?_;rintro e w2 ⟨rfl,hO2⟩;have hJ0:=af (hstart.out _ hO2);clear hO2 cI hstart;go_wp2_with fail
  go_loopg[5,6] (L.length-(i0+1)) (fun gg s5 s6 wr=> ∃i j:Nat,j<=L.length/\gg=L.length-j/\s5=.int .i64 i/\s6=.int .i64 j/\Aside (ET w wr g cap k L i j))
  case atStart=>exact⟨i0,i0+1,by omega,rfl,rfl,by simp,hJ0.out⟩
  case round=>
   obtain⟨i,j,hj,rfl,rfl,rfl,hJ⟩:=hrel;have hij:=hJ.lt;have i0':(0:Int)<=i:=by omega
   have j0:(0:Int)<=j:=by omega
   have aix:=hlh.out;have hwj:IntKind.i64.wrap ((j:Int)+1)=(j:Int)+1:=IntWalk.i64_in _ (by omega);have aiy:IntKind.i64.wrap ((i:Int)+1)=(i:Int)+1:=IntWalk.i64_in _ (by omega);by_cases hlt:j<L.length
   ·have j1:(j:Int)<L.length:=by omega
    have i1:(i:Int)<L.length:=by omega
    obtain⟨c0,c1,c2⟩:=hJ.at' hlt;have hA:=(ai.refl [] wr).alloc (.cells (bR L[j]).toArray 227);have hbx:=heap_alloc_new wr (.cells (bR L[j]).toArray 227);have Yg:=hJ.nil' hA;have cL:=Bo k kb L[j] _ ((hkh.out.own hJ.own (by simpa using hkg.out)).own hA (by simp));have hsk:=fun hh W (ho:ai [] (wr.alloc (.cells (bR L[j]).toArray 227)) W)=>(Yg.nil' ho).skip hlt hh
    have hpt:=fun hh W (ho:ai [] (wr.alloc (.cells (bR L[j]).toArray 227)) W)=>(Yg.nil' ho).put hlt hnh.out hh
    have hfz:=fun o W (ho:ai [] (wr.alloc (.cells (bR L[j]).toArray 227)) W)=>(Yg.nil' ho).fz o
    have hbk:Hid (∀W,ai [] (wr.alloc (.cells (bR L[j]).toArray 227)) W->W.heap[wr.heap.size]?=some (.cells (bR L[j]).toArray 227 (0,0))):=af fun W ho=>ho.heap hbx (by simp)
    generalize L[j]=x at*;generalize hr:rJ k x=r at*;obtain⟨x0,x1,x2⟩:=x;unfold bR at*;simp only at cL c0 c1 c2 hpt hsk hfz hbk hbx⊢;obtain⟨d0,d1,d2⟩:(wr.alloc (.cells #[.string x0,.string x1,.string x2] 227)).cell? ⟨wr.heap.size,0,none⟩=some (.string x0)/\(wr.alloc (.cells #[.string x0,.string x1,.string x2] 227)).cell? ⟨wr.heap.size,1,none⟩=some (.string x1)/\(wr.alloc (.cells #[.string x0,.string x1,.string x2] 227)).cell? ⟨wr.heap.size,2,none⟩=some (.string x2):=⟨cell_of_row _ _ 0 _ _ _ hbx,cell_of_row _ _ 1 _ _ _ hbx,cell_of_row _ _ 2 _ _ _ hbx⟩;replace cL:=af cL;cases r with
    |true=>
     have acN:=af (hsk rfl);clear hsk hpt hfz hr hJ Yg hJ0 hbx hA;go_wp2_with fail
     refine cL.out.mono ?_;rintro e w5 ⟨rfl,aF⟩;have mO:=af (acN.out _ aF);clear cL aF acN c0 c1 c2 d0 d1 d2;go_wp2_with fail
     go_roundg(L.length-(j+1))
     case measure=>omega
     case rel=>exact⟨i,j+1,by omega,rfl,rfl,by simp,mO.out⟩
    |false=>
     have acO:=af (hpt rfl);change Hid _ at hfz;clear hsk hpt hr hJ Yg hJ0 hbx hA;go_wp2_with fail
     refine cL.out.mono ?_;rintro e w5 ⟨rfl,aF⟩;obtain⟨⟨p0,p1,p2⟩,mO⟩:=acO.out _ aF;have f0:=hfz.out (i*3) _ aF;have f1:=hfz.out (i*3+1) _ aF;have f2:=hfz.out (i*3+2) _ aF;have hb5:=hbk.out _ aF;obtain⟨y0,hy0⟩:=Option.isSome_iff_exists.1 p0;obtain⟨y1,hy1⟩:=Option.isSome_iff_exists.1 p1;obtain⟨y2,hy2⟩:=Option.isSome_iff_exists.1 p2;obtain⟨z0,z1,z2⟩:w5.cell? ⟨wr.heap.size,0,none⟩=some (.string x0)/\w5.cell? ⟨wr.heap.size,1,none⟩=some (.string x1)/\w5.cell? ⟨wr.heap.size,2,none⟩=some (.string x2):=⟨cell_of_row _ _ 0 _ _ _ hb5,cell_of_row _ _ 1 _ _ _ hb5,cell_of_row _ _ 2 _ _ _ hb5⟩;change Hid _ at mO;clear cL aF acO hfz hbk hb5 p0 p1 p2 c0 c1 c2 d0 d1 d2;go_wp2_with fail
     go_roundg(L.length-(j+1))
     case measure=>omega
     case rel=>exact⟨i+1,j+1,by omega,rfl,by simp,by simp,mO.out⟩
   ·have j1: ¬(j:Int)<L.length:=by omega
    obtain rfl:j=L.length:=by omega
    obtain⟨hcl,hO,hRw⟩:=hJ.done hnh.out hmh.out;have hcn:=hJ.cnt;rw[List.take_length]at hcn;have hS:=Sl.of_row hRw dJ hbg.out;rw[<-hcn]at hS;have hni:=hnh.out;have hci: ¬(cap=i):=by omega
    have hii:(i:Int)<=L.length:=by omega
    have hic:(i:Int)<=cap:=by omega
    have hnc:(L.length:Int)<=cap:=by omega
    have hsub:((L.length:Int)-i).toNat=L.length-i:=by omega
    change Hid _ at hS hO hcn;clear hJ hRw hJ0;generalize hnL:L.length=nL at*;change Hid _ at hnL;go_wp2_with fail
    rename_i cs heq
    have hcs:cs=rM.cells:=by rw[heq];rfl
    rw[hcs];go_ret
    exact⟨_,rfl,hS.out,by simpa[Value.ownBlock]using hO.out,rfl⟩
end Go.Proofs.YtedcakchekaemaaGreatDoor
