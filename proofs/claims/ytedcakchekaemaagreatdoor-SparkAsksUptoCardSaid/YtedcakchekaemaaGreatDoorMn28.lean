import Derived.Test.YtedcakchekaemaaGreatDoorMn23
import Derived.Test.YtedcakchekaemaaGreatDoorMn24
set_option maxRecDepth 100000
set_option maxHeartbeats 16000000
set_option linter.all false
namespace Go.Proofs.YtedcakchekaemaaGreatDoor
open Go.RowKit Go.Shelf Go.Lib
variable [Kd]
structure Bi where
 k0:ByteArray
 k1:ByteArray
 t:ByteArray
def bK(x:Bi):List Value:=[.string x.k0,.string x.k1,.string x.t]
theorem dm(x:Bi):(bK x).length=3:=rfl
theorem zO:(Tryz.prog.info? 227).map (fun i=>(i.zero,i.size,i.bytes))=some (some (.agg #[.string ⟨#[]⟩,.string ⟨#[]⟩,.string ⟨#[]⟩]),3,48):=by kernel_rfl
theorem qO:je Tryz.prog 148 227 bK 3 48 where
 ut:=Tryz.underlying148
 info:=by obtain⟨i,h1,h2,h3,h4⟩:=info_parts zO;exact⟨i,_,h1,h2,h3,h4,rfl⟩
 pos:=by omega
 len:=dm
 one x u hu:=by simp only[bK,List.mem_cons,List.not_mem_nil,or_false]at hu;rcases hu with rfl|rfl|rfl<;>rfl
theorem iH{P:Program}(w:World)(dT sT ty elem:TypeId)(k b o dLen dCap:Nat)(a:Addr)(sLen sCap m:Nat)(cs:List Value)
  (hu:P.underlying dT=some (.slice elem))(hs:(P.info? elem).map (·.size)=some k)(hm:m=Nat.min sLen dLen)(hn:cs.length=m*k)
  (hsrc: ∀j v,cs[j]?=some v->w.cell? (a.add j)=some v)(hc: ∀j,j<cs.length->(w.cell? ⟨b,o+j,none⟩).isSome=true)(hf: ∀j,j<cs.length->w.frozen? ⟨b,o+j,none⟩=false)(h1: ∀v∈cs,v.oneCell'=true):
  (Builtin.copy_ #[dT,sT] ty #[.slice (some ⟨b,o,none⟩) dLen dCap,.slice (some a) sLen sCap]).run P w=.ok (goInt m) (w.setCells b o cs):=by
 have hl:=run_loadCells_list (P:=P) w a cs hsrc;have hst:=run_storeCells_cells (P:=P) b o cs 0 w (by simpa using hc) (by simpa using hf) h1;rw[hn]at hl;cases hq:P.info? elem with
 |none=>simp[hq]at hs
 |some i=>
  have hi:i.size=k:=by simpa[hq]using hs
  simp[Builtin.copy_,run_underlying hu,Builtin.lenOf,Builtin.firstCells,sizeOf,typeInfo,hq,hi,<-hm,hl,hst]
def xJ(dv:Value)(l:List Bi)(w:World)(e:Ending)(w':World):Prop:=
 ∃v',e=.returned v'/\Sl 227 bK 3 0 w' v' l/\ai dv.ownBlock.toList w w'/\(∀g,v'.ownBlock=some g->dv.ownBlock=some g\/w.heap.size<=g)
theorem OT(dv:Value)(ds:List Bi)(d:Bi)(vb:Nat)(w:World)(h:Sl 227 bK 3 0 w dv ds)(hv:w.heap[vb]?=some (.cells (bK d).toArray 227 (0,0)))(hl:ds.length<=40):
  Calls Tryz.prog 172 #[dv,.int .i64 ds.length,.slice (some ⟨vb,0,none⟩) 1 1] w (xJ dv (ds++[d]) w):=by
 have hR:aA bK w (.slice (some ⟨vb,0,none⟩) 1 1) [d]:=.inr ⟨vb,0,1,rfl,fun j u hu=>by
  rw[Nat.zero_add,cell_of_row w vb j _ _ _ hv];simpa[aC,bK]using hu⟩
 obtain⟨v1,hsl,_,_⟩:=h.drop qO (Nat.le_refl ds.length);obtain⟨sa,sc,rfl⟩:=h.sl;have hB:=af (zK w);have hS:Sl 227 bK 3 (IK w).heap.size w (.slice sa ds.length sc) ds:=h;change Hid _ at hS hR;have hl1:=af (show(ds.length+[d].length)*48<=140737488355328 by simp;omega);have hl2:=af (show ds.length+[d].length<=maxLen by unfold maxLen;simp;omega);clear h hv;go_enter Tryz.func172,Tryz.ntmps172
 go_wp2_with(at_builtin;refine aO rfl (.tmp 23) (.tmp 24) rfl qO hB.out rfl hS.out rfl hR.out hl1.out hl2.out ?_;intro v5 w5 hS5 _ _ hg5 gW;replace hS5:=af hS5;replace hg5:=af hg5;replace gW:=af gW)
 go_ret
 exact⟨v5,rfl,hS5.out,gW.out,hg5.out⟩
theorem Gc(g n c i vb:Nat)(cs:List Value)(us:List Value)(w:World)(hi:i<n)(hroom:n+1<=c)(Rb:n<=40)(hc63:c<=9223372036854775807)(hvb:vb≠g)
  (cur:Array Value)(hg:w.heap[g]?=some (.cells cur 227 (0,0)))(hcz:cur.size=c*3)(hcl:cs.length=n*3)(hct:cur.toList.take (n*3)=cs)(h1c: ∀v∈cs,v.oneCell'=true)(Jq: ∀v∈us,v.oneCell'=true)(Ey:us.length=3)
  (hv:w.heap[vb]?=some (.cells us.toArray 227 (0,0))):
  Calls Tryz.prog 172 #[.slice (some ⟨g,0,none⟩) n c,.int .i64 i,.slice (some ⟨vb,0,none⟩) 1 1] w fun e w'=>
   e=.returned (.slice (some ⟨g,0,none⟩) (n+1) c)/\w'=(w.drew.setCells g ((i+1)*3) (cs.drop (i*3))).setCells g (i*3) us:=by
 have hcell: ∀j v,cs[j]?=some v->w.cell? ⟨g,j,none⟩=some v:=fun j v hj=>by
  rw[cell_of_row w g j _ _ _ hg];rw[<-hct,List.getElem?_take]at hj;split at hj
  ·simpa using hj
  ·cases hj
 have hsp: ∀j,j<(n+1)*3->(w.cell? ⟨g,j,none⟩).isSome=true:=fun j hj=>by
  rw[cell_of_row w g j _ _ _ hg,Array.getElem?_eq_getElem (by omega)];rfl
 have hfz: ∀j,w.frozen? ⟨g,j,none⟩=false:=fun j=>frozen_of_row w g j _ _ hg
 have YZ: ∀j v,us[j]?=some v->w.cell? ⟨vb,j,none⟩=some v:=fun j v hj=>by
  rw[cell_of_row w vb j _ _ _ hv];simpa using hj
 have hsz:(Tryz.prog.info? 227).map (·.size)=some 3:=by kernel_rfl
 have hsa:w.shape? vb=some (227,3):=by simp[World.shape?,hv,Ey]
 have hsb:w.shape? g=some (227,cur.size):=by simp[World.shape?,hg]
 have hz3: ∀w,(Go.sizeOf 227).run Tryz.prog w=.ok 3 w:=fun w=>by kernel_rfl
 have hov: ∀lb cb,(callFunc 226 #[.slice (some ⟨vb,0,none⟩) 1 1,.slice (some ⟨g,(i+1)*3,none⟩) lb cb]).run Tryz.prog w=.ok (.value (.bool false)) w:=fun lb cb=>by
  rw[run_callFunc_extern Tryz.func226 (by kernel_rfl) (by kernel_rfl) (by kernel_rfl) (e:=Extern.SlicesOverlaps.overlaps #[148,148] #[4]) (by kernel_rfl),
   Lib.run_overlaps_apart w 148 4 227 Tryz.underlying148 3 hz3 ⟨vb,0,none⟩ ⟨g,(i+1)*3,none⟩ 1 1 lb cb hvb 227 227 3 cur.size hsa hsb (by omega) (frozen_of_row w vb 0 _ _ hv) (frozen_of_row w vb 3 _ _ hv)]
  rfl
 have hdl:(cs.drop (i*3)).length=(n-i)*3:=by rw[List.length_drop,hcl];omega
 have hz2: ¬((i:Int)=(n:Int)):=by omega
 have hw1:IntKind.i64.wrap ((i:Int)+1)=(i:Int)+1:=by rw[IntKind.wrap_i64];omega
 have hb1:(0:Int)<=(i:Int)+1:=by omega
 have htn:((i:Int)+1).toNat=i+1:=by omega
 have hb2: ¬(c=i+1):=by omega
 have hb3:(i:Int)<=(n:Int)+1:=by omega
 have hb4: ¬(c=i):=by omega
 have hin:i<=n:=by omega
 have hcp1: ∀ty dc sc,(Builtin.copy_ #[148,148] ty #[.slice (some ⟨g,(i+1)*3,none⟩) (n-i) dc,.slice (some ⟨g,i*3,none⟩) (n+1-i) sc]).run Tryz.prog w.drew=.ok (goInt ((n-i:Nat):Int)) (w.drew.setCells g ((i+1)*3) (cs.drop (i*3))):=fun ty dc sc=>
  iH w.drew _ _ ty 227 3 g ((i+1)*3) (n-i) dc ⟨g,i*3,none⟩ (n+1-i) sc (n-i) (cs.drop (i*3)) Tryz.underlying148 hsz (by simp only[Nat.min_def];split<;>omega) hdl
   (fun j v hj=>by rw[Addr.add_lit];exact hcell (i*3+j) v (by rwa[List.getElem?_drop]at hj))
   (fun j hj=>hsp _ (by rw[hdl]at hj;omega)) (fun j hj=>hfz _) (fun v hv=>h1c v (List.mem_of_mem_drop hv))
 obtain⟨W1,hW1⟩: ∃W1,W1=w.drew.setCells g ((i+1)*3) (cs.drop (i*3)):=⟨_,rfl⟩;have hsp1: ∀k,k<(n+1)*3->(W1.cell? ⟨g,k,none⟩).isSome=true:=fun k hk=>by
  rw[hW1];exact isSome_setCells g (cs.drop (i*3)) ((i+1)*3) w.drew (fun j hj=>hsp _ (by rw[hdl]at hj;omega)) k (hsp k hk)
 have hcp2: ∀(W:World),(∀x,W.cell? x=W1.cell? x)->(∀x,W.frozen? x=W1.frozen? x)-> ∀ty dc,(Builtin.copy_ #[148,148] ty #[.slice (some ⟨g,i*3,none⟩) (n+1-i) dc,.slice (some ⟨vb,0,none⟩) 1 1]).run Tryz.prog W=.ok (goInt ((1:Nat):Int)) (W.setCells g (i*3) us):=fun W hWc hWf ty dc=>
  iH W _ _ ty 227 3 g (i*3) (n+1-i) dc ⟨vb,0,none⟩ 1 1 1 us Tryz.underlying148 hsz (by simp only[Nat.min_def];split<;>omega) Ey
   (fun j v hj=>by
    rw[Addr.add_lit,hWc,hW1,World.cell?_setCells_out g _ _ _ _ (fun h _=>absurd h hvb),Nat.zero_add];exact YZ j v hj)
   (fun j hj=>by rw[hWc];exact hsp1 _ (by rw[Ey]at hj;omega)) (fun j hj=>by rw[hWf,hW1,World.frozen?_setCells];exact hfz _) Jq
 rw[<-hW1]at hcp1;clear hcell hsp hfz YZ hsa hsb hz3 hsz hdl hsp1 hg hv hct hcl h1c Jq Ey;go_enter Tryz.func172,Tryz.ntmps172
 go_wp2_with(simp only[hov])
 go_region_law(refine step_copy_runI rfl _ _ 148 148 rfl _ _ (by simp[Act.eval,Act.put]) (by simp[Act.eval,Act.put]) (hcp1 _ _ _) ?_)
 go_wp2_with(at_builtin;refine wpList_copy_runI _ rfl _ _ 148 148 rfl _ _ rfl rfl (hcp2 _ (fun _=>rfl) (fun _=>rfl) _ _) ?_)
 go_ret
 first|exact⟨rfl,rfl⟩|exact⟨rfl,by rw[hW1]⟩
theorem KC(g n c i vb:Nat)(cs:List Value)(us:List Value)(w:World)(hi:i<n)(hnc:n<=c)(hroom:c<n+1)(Rb:n<=40)
  (cur:Array Value)(hg:w.heap[g]?=some (.cells cur 227 (0,0)))(hcl:cs.length=n*3)(hct:cur.toList.take (n*3)=cs)(h1c: ∀v∈cs,v.oneCell'=true)(Jq: ∀v∈us,v.oneCell'=true)(Ey:us.length=3)
  (hv:w.heap[vb]?=some (.cells us.toArray 227 (0,0))):
  Calls Tryz.prog 172 #[.slice (some ⟨g,0,none⟩) n c,.int .i64 i,.slice (some ⟨vb,0,none⟩) 1 1] w fun e w'=> ∃(G:Nat) (ROW:Array Value),n+1<=G/\G<=maxLen/\ROW.size=G*3/\ROW.toList.take (i*3)=cs.take (i*3)/\
   e=.returned (.slice (some ⟨w.heap.size,0,none⟩) (n+1) G)/\w'=(((w.alloc (.cells ROW 227)).drew.setCells w.heap.size (i*3) us).drew).setCells w.heap.size ((i+1)*3) (cs.drop (i*3)):=by
 have hcs: ∀j v,cs[j]?=some v->w.cell? ⟨g,j,none⟩=some v:=fun j v hj=>by
  rw[cell_of_row w g j _ _ _ hg];rw[<-hct,List.getElem?_take]at hj;split at hj
  ·simpa using hj
  ·cases hj
 have hvs: ∀j v,us[j]?=some v->w.cell? ⟨vb,j,none⟩=some v:=fun j v hj=>by
  rw[cell_of_row w vb j _ _ _ hv];simpa using hj
 obtain⟨i0,hi0,hz0,hzs,hzb⟩:=info_parts zO;have hz2: ¬((i:Int)=(n:Int)):=by omega
 have hz3:(c:Int)<(n:Int)+1:=by omega
 have hsz:(Tryz.prog.info? 227).map (·.size)=some 3:=by rw[hi0];simp[hzs]
 have hbw:g<w.heap.size:=aj hg;have hvw:vb<w.heap.size:=aj hv;have hkk:(n:Int)+1-(i:Int)=((n+1-i:Nat):Int):=by omega
 have hik:i+(n+1-i)=n+1:=by omega
 have hold:(Builtin.firstCells i0.size i (.slice (some ⟨g,0,none⟩) i c)).run Tryz.prog w.drew=.ok (cs.take (i*3)).toArray w.drew:=by
  rw[hzs];exact run_firstCells_some w.drew 3 i ⟨g,0,none⟩ i c (cs.take (i*3)) (by rw[List.length_take];omega) (fun j v hj=>by
   rw[Addr.add_lit,Nat.zero_add];rw[List.getElem?_take]at hj;split at hj
   ·exact hcs j v hj
   ·cases hj)
 have hrz: ∀ty,(Builtin.append_ #[148,3] ty #[.slice (some ⟨g,0,none⟩) i c,.int .i64 ((n:Int)+1-(i:Int))]).run Tryz.prog w=
   .ok (.slice (some ⟨w.heap.size,0,none⟩) (n+1) (grownCap w (n+1) c 227)) (w.drew.alloc (.cells ((cs.take (i*3)).toArray++Builtin.zeroCells (Value.agg #[.string ⟨#[]⟩,.string ⟨#[]⟩,.string ⟨#[]⟩]).cells (n+1-i)++Builtin.zeroCells (Value.agg #[.string ⟨#[]⟩,.string ⟨#[]⟩,.string ⟨#[]⟩]).cells (grownCap w (n+1) c 227-(n+1))) 227)):=fun ty=>by
  have h:=Lib.run_append_grow_zeros w 148 3 ty 227 i0 _ .i64 .i64 Tryz.underlying148 Tryz.underlying3 hi0 hz0 (some ⟨g,0,none⟩) i c (cs.take (i*3)) hold (n+1-i) (by omega) (by omega) (by omega) (by omega) (by rw[hzb];omega) (by rw[hzb,hik];exact growslice_fits hroom (by omega));rw[hik]at h;rw[hkk];exact h
 obtain⟨G,hG⟩: ∃G,G=grownCap w (n+1) c 227:=⟨_,rfl⟩;obtain⟨ROW,hROW⟩: ∃ROW:Array Value,ROW=(cs.take (i*3)).toArray++Builtin.zeroCells (Value.agg #[.string ⟨#[]⟩,.string ⟨#[]⟩,.string ⟨#[]⟩]).cells (n+1-i)++Builtin.zeroCells (Value.agg #[.string ⟨#[]⟩,.string ⟨#[]⟩,.string ⟨#[]⟩]).cells (G-(n+1)):=⟨_,rfl⟩;rw[<-hG,<-hROW]at hrz;have hGn:n+1<=G:=by rw[hG];exact grownCap_ge w _ _ _
 have QE:G<=maxLen:=by rw[hG];exact grownCap_le_maxLen w (n+1) c 227 (by unfold maxLen;omega)
 have hRs:ROW.size=G*3:=by
  rw[hROW];simp[Builtin.zeroCells,Value.cells];omega
 have Et:ROW.toList.take (i*3)=cs.take (i*3):=by
  rw[hROW];simp only[Array.toList_append,List.append_assoc];have e:(cs.take (i*3)).length=i*3:=by rw[List.length_take];omega
  rw[List.take_append_of_le_length (Nat.le_of_eq e.symm)];show List.take (i*3) (cs.take (i*3))=cs.take (i*3);rw[List.take_take,Nat.min_self]
 obtain⟨W1,hW1⟩: ∃W1,W1=w.drew.alloc (.cells ROW 227):=⟨_,rfl⟩;rw[<-hW1]at hrz;have hN: ∀j,j<(n+1)*3->(W1.cell? ⟨w.heap.size,j,none⟩).isSome=true:=fun j hj=>by
  rw[hW1,World.cell?_alloc_at (w:=w.drew) ROW _ w.heap.size j rfl,Array.getElem?_eq_getElem (by omega)];rfl
 have hNf: ∀j,W1.frozen? ⟨w.heap.size,j,none⟩=false:=fun j=>by rw[hW1];exact World.frozen?_alloc_at (w:=w.drew) ROW _ w.heap.size j rfl
 have hOb: ∀j v,w.cell? ⟨g,j,none⟩=some v->W1.cell? ⟨g,j,none⟩=some v:=fun j v h=>by rw[hW1,World.cell?_alloc_past (w:=w.drew) _ g j hbw];exact h
 have hOv: ∀j v,w.cell? ⟨vb,j,none⟩=some v->W1.cell? ⟨vb,j,none⟩=some v:=fun j v h=>by rw[hW1,World.cell?_alloc_past (w:=w.drew) _ vb j hvw];exact h
 have hcpA: ∀(W:World),(∀x,W.cell? x=W1.cell? x)->(∀x,W.frozen? x=W1.frozen? x)-> ∀ty dc,(Builtin.copy_ #[148,148] ty #[.slice (some ⟨w.heap.size,i*3,none⟩) (n+1-i) dc,.slice (some ⟨vb,0,none⟩) 1 1]).run Tryz.prog W=.ok (goInt ((1:Nat):Int)) (W.setCells w.heap.size (i*3) us):=fun W hWc hWf ty dc=>
  iH W _ _ ty 227 3 w.heap.size (i*3) (n+1-i) dc ⟨vb,0,none⟩ 1 1 1 us Tryz.underlying148 hsz (by simp only[Nat.min_def];split<;>omega) Ey
   (fun j v hj=>by rw[Addr.add_lit,hWc,Nat.zero_add];exact hOv _ v (hvs j v hj))
   (fun j hj=>by rw[hWc];exact hN _ (by rw[Ey]at hj;omega)) (fun j hj=>by rw[hWf];exact hNf _) Jq
 have hG63:G<=9223372036854775807:=by unfold maxLen at QE;omega
 have hGi: ¬(G=i):=by omega
 have hGim: ¬(G=i+1):=by omega
 have hci: ¬(c=i):=by omega
 have hbN:g≠w.heap.size:=by omega
 have hdl:(cs.drop (i*3)).length=(n-i)*3:=by rw[List.length_drop,hcl];omega
 have hcpB: ∀(W:World),(∀x,W.cell? x=(W1.setCells w.heap.size (i*3) us).cell? x)->(∀x,W.frozen? x=(W1.setCells w.heap.size (i*3) us).frozen? x)-> ∀ty dc sc,(Builtin.copy_ #[148,148] ty #[.slice (some ⟨w.heap.size,(i+1)*3,none⟩) (n-i) dc,.slice (some ⟨g,i*3,none⟩) (n-i) sc]).run Tryz.prog W=.ok (goInt ((n-i:Nat):Int)) (W.setCells w.heap.size ((i+1)*3) (cs.drop (i*3))):=fun W hWc hWf ty dc sc=>
  iH W _ _ ty 227 3 w.heap.size ((i+1)*3) (n-i) dc ⟨g,i*3,none⟩ (n-i) sc (n-i) (cs.drop (i*3)) Tryz.underlying148 hsz (by simp only[Nat.min_def];split<;>omega) hdl
   (fun j v hj=>by
    rw[Addr.add_lit,hWc,World.cell?_setCells_out _ _ _ _ _ (fun h _=>absurd h hbN)];exact hOb _ v (hcs (i*3+j) v (by rwa[List.getElem?_drop]at hj)))
   (fun j hj=>by rw[hWc];exact isSome_setCells w.heap.size us (i*3) W1 (fun t ht=>hN _ (by rw[Ey]at ht;omega)) _ (hN _ (by rw[hdl]at hj;omega)))
   (fun j hj=>by rw[hWf,World.frozen?_setCells];exact hNf _) (fun v hv=>h1c v (List.mem_of_mem_drop hv))
 have hfin:=af (And.intro hGn (And.intro QE (And.intro hRs Et)));subst hW1;have hE1: ∀x,((w.alloc (.cells ROW 227)).drew).cell? x=(w.drew.alloc (.cells ROW 227)).cell? x:=fun x=>rfl
 have hE2: ∀x,((w.alloc (.cells ROW 227)).drew).frozen? x=(w.drew.alloc (.cells ROW 227)).frozen? x:=fun x=>rfl
 have hF1: ∀x,(((w.alloc (.cells ROW 227)).drew.setCells w.heap.size (i*3) us).drew).cell? x=((w.drew.alloc (.cells ROW 227)).setCells w.heap.size (i*3) us).cell? x:=fun x=>rfl
 have hF2: ∀x,(((w.alloc (.cells ROW 227)).drew.setCells w.heap.size (i*3) us).drew).frozen? x=((w.drew.alloc (.cells ROW 227)).setCells w.heap.size (i*3) us).frozen? x:=fun x=>rfl
 have hw1:IntKind.i64.wrap ((i:Int)+1)=(i:Int)+1:=by rw[IntKind.wrap_i64];omega
 have hb1:(0:Int)<=(i:Int)+1:=by omega
 have hin:i<=n:=by omega
 have htn:((i:Int)+1).toNat=i+1:=by omega
 have hb3:(i:Int)<=(n:Int):=by omega
 clear hkk hik hold hROW hG hRs Et hcs hvs hg hv hct hcl h1c Jq Ey hN hNf hOb hOv hi0 hz0 hzs hzb QE hGn hdl hsz;go_enter Tryz.func172,Tryz.ntmps172
 go_wp2_with(first
  |(at_builtin;refine Lib.wpList_append_run _ rfl _ _ _ _ rfl _ _ rfl rfl _ _ (hrz _) ?_)
  |(at_builtin;refine wpList_copy_runI _ rfl _ _ 148 148 rfl _ _ rfl rfl (hcpA _ hE1 hE2 _ _) ?_))
 go_region_law(refine step_copy_runI rfl _ _ 148 148 rfl (.slice (some ⟨w.heap.size,(i+1)*3,none⟩) (n-i) (G-(i+1))) (.slice (some ⟨g,i*3,none⟩) (n-i) (c-i)) (by simp[Act.eval,Act.put]) (by simp[Act.eval,Act.put]) (hcpB _ hF1 hF2 3 (G-(i+1)) (c-i)) ?_)
 go_wp2_with fail
 go_ret
 exact⟨G,ROW,hfin.out.1,hfin.out.2.1,hfin.out.2.2.1,hfin.out.2.2.2,rfl,rfl⟩
theorem OU{α:Type}(cur R U:List α)(o m:Nat)(hi:o<m)(hR:R.length=m)(hU:U.length=3)(hc:m+3<=cur.length)(ht:cur.take m=R):
  ((cur.take (o+3)++R.drop o++cur.drop (o+3+(R.drop o).length)).take o++U++(cur.take (o+3)++R.drop o++cur.drop (o+3+(R.drop o).length)).drop (o+U.length)).take (m+3)=R.take o++U++R.drop o:=by
 have l1:(cur.take (o+3)).length=o+3:=by rw[List.length_take];omega
 have a:(cur.take (o+3)++R.drop o++cur.drop (o+3+(R.drop o).length)).take o=R.take o:=by
  rw[List.append_assoc,List.take_append_of_le_length (by omega),List.take_take,Nat.min_eq_left (by omega),<-ht,List.take_take,Nat.min_eq_left (by omega)]
 have b:(cur.take (o+3)++R.drop o++cur.drop (o+3+(R.drop o).length)).drop (o+U.length)=R.drop o++cur.drop (o+3+(R.drop o).length):=by
  rw[List.append_assoc,hU];exact List.drop_left' l1
 rw[a,b,<-List.append_assoc];refine List.take_left' ?_;simp only[List.length_append,List.length_take,List.length_drop,hU];omega
theorem Sg{α:Type}(ROW R U:List α)(o m:Nat)(hi:o<m)(hR:R.length=m)(hU:U.length=3)(hc:m+3<=ROW.length)(ht:ROW.take o=R.take o):
  ((ROW.take o++U++ROW.drop (o+U.length)).take (o+3)++R.drop o++(ROW.take o++U++ROW.drop (o+U.length)).drop (o+3+(R.drop o).length)).take (m+3)=R.take o++U++R.drop o:=by
 have l1:(ROW.take o++U).length=o+3:=by rw[List.length_append,List.length_take,hU];omega
 have a:(ROW.take o++U++ROW.drop (o+U.length)).take (o+3)=R.take o++U:=by rw[List.take_left' l1,ht]
 rw[a];refine List.take_left' ?_;simp only[List.length_append,List.length_take,List.length_drop,hU];omega
theorem vJ(l:List Bi)(i:Nat):aC bK (l.take i)=(aC bK l).take (i*3):=by
 conv=>rhs;rw[<-List.take_append_drop i l,bO]
 by_cases h:i<=l.length
 ·rw[List.take_left' (by rw[aW dm,List.length_take];omega)]
 ·rw[List.drop_eq_nil_of_le (by omega),List.take_of_length_le (i:=i) (by omega)]
  simp only[aC,List.flatMap_nil,List.append_nil];rw[List.take_of_length_le];have:=aW dm l;unfold aC at this;omega
theorem Dn(l:List Bi)(i:Nat)(h:i<=l.length):aC bK (l.drop i)=(aC bK l).drop (i*3):=by
 conv=>rhs;rw[<-List.take_append_drop i l,bO]
 rw[List.drop_left' (by rw[aW dm,List.length_take];omega)]
theorem OV(dv:Value)(ds:List Bi)(d:Bi)(vb i:Nat)(w:World)(h:Sl 227 bK 3 0 w dv ds)(hv:w.heap[vb]?=some (.cells (bK d).toArray 227 (0,0)))(hne:dv.ownBlock≠some vb)(hl:ds.length<=40)(hi:i<=ds.length):
  Calls Tryz.prog 172 #[dv,.int .i64 i,.slice (some ⟨vb,0,none⟩) 1 1] w (xJ dv (ds.take i++[d]++ds.drop i) w):=by
 by_cases hie:i=ds.length
 ·subst hie
  rw[List.take_length,List.drop_length,List.append_nil];exact OT dv ds d vb w h hv hl
 ·rcases h.form with⟨_,rfl⟩|⟨g,cap,rfl,_,cur,hg,h1,h2,h3,h4⟩
  ·exact absurd (Nat.le_zero.1 hi) hie
  ·have hlt:i<ds.length:=by omega
   have hcl:(aC bK ds).length=ds.length*3:=aW dm ds;have h1c: ∀v∈aC bK ds,v.oneCell'=true:=qF qO.one ds;have hgn:vb≠g:=fun e=>hne (by rw[e];rfl)
   have hc63:cap<=9223372036854775807:=by unfold maxLen at h2;omega
   have hlg:g<w.heap.size:=aj hg;have hnew:aC bK (ds.take i++[d]++ds.drop i)=(aC bK ds).take (i*3)++bK d++(aC bK ds).drop (i*3):=by
    rw[bO,bO,vJ,Dn _ _ (by omega)];simp[aC]
   have hnl:(ds.take i++[d]++ds.drop i).length=ds.length+1:=by simp;omega
   have Jq: ∀v∈bK d,v.oneCell'=true:=qO.one d;have e3:(i+1)*3=i*3+3:=by omega
   have e4:(ds.length+1)*3=ds.length*3+3:=by omega
   by_cases hroom:ds.length+1<=cap
   ·refine(Gc g ds.length cap i vb (aC bK ds) (bK d) w hlt hroom hl hc63 hgn cur hg h3 hcl h4 h1c Jq rfl hv).mono ?_
    rintro e w' ⟨rfl,rfl⟩;obtain⟨c1,k1,k2,k3⟩:=dA ((aC bK ds).drop (i*3)) ((i+1)*3) w.drew cur hg (by rw[List.length_drop,hcl];omega);obtain⟨c2,m1,m2,m3⟩:=dA (bK d) (i*3) _ c1 k1 (by rw[dm,k2,h3];omega);have hO:ai [g] w ((w.drew.setCells g ((i+1)*3) ((aC bK ds).drop (i*3))).setCells g (i*3) (bK d)):=dB (by simp) _ _ (dB (by simp) _ _ ((ai.refl _ _).drew));refine⟨_,rfl,⟨by rw[hnew,hnl];simp only[List.length_append,List.length_take,List.length_drop,dm,hcl];omega,.inr ⟨g,cap,c2,by rw[hnl],Nat.zero_le _,m1,by rw[hnl];exact hroom,h2,by rw[m2,k2,h3],?_⟩⟩,hO,fun q hq=>.inl hq⟩;rw[hnl,hnew,m3,k3,e3,e4];exact OU cur.toList (aC bK ds) (bK d) (i*3) (ds.length*3) (by omega) hcl (dm d) (by simp[h3];omega) h4
   ·refine(KC g ds.length cap i vb (aC bK ds) (bK d) w hlt h1 (by omega) hl cur hg hcl h4 h1c Jq rfl hv).mono ?_
    rintro e w' ⟨G,ROW,hG,QE,hRs,Et,rfl,rfl⟩;obtain⟨c1,k1,k2,k3⟩:=dA (bK d) (i*3) ((w.alloc (.cells ROW 227)).drew) ROW (heap_alloc_new w _) (by rw[dm,hRs];omega);obtain⟨c2,m1,m2,m3⟩:=dA ((aC bK ds).drop (i*3)) ((i+1)*3) (((w.alloc (.cells ROW 227)).drew.setCells w.heap.size (i*3) (bK d)).drew) c1 k1 (by rw[List.length_drop,hcl,k2,hRs];omega);have gV:ai [w.heap.size] (w.alloc (.cells ROW 227)) ((((w.alloc (.cells ROW 227)).drew.setCells w.heap.size (i*3) (bK d)).drew).setCells w.heap.size ((i+1)*3) ((aC bK ds).drop (i*3))):=
     dB (by simp) _ _ ((dB (by simp) _ _ ((ai.refl _ _).drew)).drew)
    have hO:ai (Value.slice (some ⟨g,0,none⟩) ds.length cap).ownBlock.toList w ((((w.alloc (.cells ROW 227)).drew.setCells w.heap.size (i*3) (bK d)).drew).setCells w.heap.size ((i+1)*3) ((aC bK ds).drop (i*3))):=
     ((ai.refl _ _).alloc _).trans' gV (fun x hx=>.inr (by simp at hx;omega))
    refine⟨_,rfl,⟨by rw[hnew,hnl];simp only[List.length_append,List.length_take,List.length_drop,dm,hcl];omega,.inr ⟨w.heap.size,G,c2,by rw[hnl],Nat.zero_le _,m1,by rw[hnl];exact hG,QE,by rw[m2,k2,hRs],?_⟩⟩,hO,fun q hq=>.inr (by simp[Value.ownBlock]at hq;omega)⟩;rw[hnl,hnew,m3,k3,e3,e4];exact Sg ROW.toList (aC bK ds) (bK d) (i*3) (ds.length*3) (by omega) hcl (dm d) (by simp[hRs];omega) Et
end Go.Proofs.YtedcakchekaemaaGreatDoor
namespace Go.Proofs.YtedcakchekaemaaGreatDoor
open Go.RowKit
variable [Kd]
def aG:ByteArray:=⟨#[]⟩
theorem KD:Tryz.prog.cellsOf 9=1:=by kernel_rfl
theorem zP:Tryz.prog.plainKey 9=true:=by kernel_rfl
theorem I6(a b c d:ByteArray)(w:World):(binOp .eql 225 (.agg #[.string a,.string b]) (.agg #[.string c,.string d])).run Tryz.prog w=.ok (.bool ((a==c)&&(b==d))) w:=by
 obtain⟨i,hi,_⟩:=info_parts OP;rw[run_eql_struct];have h:=run_equalIn_array (P:=Tryz.prog) (w:=w) 9999 (t:=225) (e:=9) (n:=2) (i:=i) #[.string a,.string b] #[.string c,.string d] (by kernel_rfl) hi;show((Op.equalIn (9999+1) _ _ _).run _ _).andThen _=_;rw[h,KD];have p: ∀(u v:ByteArray),(part 9 #[.string u,.string v] 0).run Tryz.prog w=.ok (.string u) w/\(part 9 #[.string u,.string v] 1).run Tryz.prog w=.ok (.string v) w:=fun u v=>⟨run_part_plain w zP rfl,run_part_plain w zP rfl⟩
 have se: ∀(u v:ByteArray),(Op.equalIn 9999 9 (.string u) (.string v)).run Tryz.prog w=.ok (u==v) w:=fun u v=>by
  show(Op.equalIn (9998+1) _ (.string u) (.string v)).run _ w=_;rw[run_equalIn_string w 9998 _ u v Tryz.underlying9,beq_toListBytes]
 obtain⟨p1,p2⟩:=p a b;obtain⟨q1,q2⟩:=p c d;have s1:=se a c;have s2:=se b d;clear p se h hi;generalize(a==c)=u at s1⊢;generalize(b==d)=v at s2⊢;show((Op.eqItems 9999 9 1 #[.string a,.string b] #[.string c,.string d] [0,1]).run Tryz.prog w).andThen _=_;simp only[Op.eqItems,Nat.zero_mul,Nat.one_mul,Sem.run_bind,p1,q1,s1,Result.andThen_ok];cases u<;>cases v<;>simp[p1,p2,q1,q2,s2,Result.andThen_ok]
theorem zQ(a b:ByteArray)(w:World):Calls Tryz.prog 182 #[.agg #[.string a,.string b]] w fun e w'=>e=.returned (.bool (b==aG))/\ai [] w w':=by
 have hO:=(ai.refl [] w).alloc (.cells #[.string a,.string b] 225);have hb:=heap_alloc_new w (.cells #[.string a,.string b] 225);have c0:(w.alloc (.cells #[.string a,.string b] 225)).cell? ⟨w.heap.size,0,none⟩=some (.string a):=cell_of_row _ _ 0 _ _ _ hb;have c1:(w.alloc (.cells #[.string a,.string b] 225)).cell? ⟨w.heap.size,1,none⟩=some (.string b):=cell_of_row _ _ 1 _ _ _ hb;have hq:=fun W=>I6 a b a ⟨#[]⟩ W
 simp only[beq_self_eq_true,Bool.true_and]at hq;change∀W,_=Result.ok (Value.bool (b==aG)) W at hq;generalize(b==aG)=r at*;change Hid _ at hO;clear hb;go_enter Tryz.func182,Tryz.ntmps182
 go_wp2_with fail
 go_ret
 exact⟨rfl,hO.out⟩
def KE(k x:ByteArray×ByteArray):Bool:=k==x||(k.2==aG&&k.1==x.1)
theorem Gd(a b c d:ByteArray)(w:World):Calls Tryz.prog 223 #[.agg #[.string a,.string b],.agg #[.string c,.string d]] w fun e w'=>e=.returned (.bool (KE (a,b) (c,d)))/\ai [] w w':=by
 have hO:=((ai.refl [] w).alloc (.cells #[.string a,.string b] 225)).alloc (.cells #[.string c,.string d] 225);have hb:=((ai.refl [] _).alloc (.cells #[.string c,.string d] 225)).heap (heap_alloc_new w (.cells #[.string a,.string b] 225)) (by simp);have hd:=heap_alloc2_new w (.cells #[.string a,.string b] 225) (.cells #[.string c,.string d] 225);have hq:=fun W=>I6 a b c d W
 have cW:=af fun W=>zQ a b W
 have hk:KE (a,b) (c,d)=(((a==c)&&(b==d))||((b==aG)&&(a==c))):=rfl;rw[hk];have hac:(a.toList==c.toList)=(a==c):=(beq_toListBytes _ _).symm;have c0:=cell_of_row _ _ 0 _ _ _ hb;have c1:=cell_of_row _ _ 1 _ _ _ hb;have d0:=cell_of_row _ _ 0 _ _ _ hd;have d1:=cell_of_row _ _ 1 _ _ _ hd;obtain⟨e1,h1⟩: ∃e,((a==c)&&(b==d))=e:=⟨_,rfl⟩;simp only[h1]at hq⊢;generalize(b==aG)=e2 at*;generalize(a==c)=e3 at*;have hbl:=aj hb;have hdl:=aj hd;have hkeep:Hid (∀W,ai [] ((w.alloc (.cells #[.string a,.string b] 225)).alloc (.cells #[.string c,.string d] 225)) W->(W.cell? ⟨w.heap.size,0,none⟩=some (.string a)/\W.cell? ⟨w.heap.size,1,none⟩=some (.string b))/\(W.cell? ⟨w.heap.size+1,0,none⟩=some (.string c)/\W.cell? ⟨w.heap.size+1,1,none⟩=some (.string d))/\ai [] w W):=af fun W ho=>
  ⟨⟨cell_of_row _ _ 0 _ _ _ (ho.heap hb (by simp)),cell_of_row _ _ 1 _ _ _ (ho.heap hb (by simp))⟩,⟨cell_of_row _ _ 0 _ _ _ (ho.heap hd (by simp)),cell_of_row _ _ 1 _ _ _ (ho.heap hd (by simp))⟩,hO.trans ho⟩
 clear h1 hb hd hO hbl hdl;cases e1 with
 |true=>
  go_enter Tryz.func223,Tryz.ntmps223
  go_wp2_with fail
  go_ret
  exact⟨rfl,(hkeep.out _ (ai.refl _ _)).2.2⟩
 |false=>
  cases e2 with
  |false=>
   go_enter Tryz.func223,Tryz.ntmps223
   go_wp2_with(go_at_call 182;(with_reducible refine(cW.out _).mono ?_);rintro e w2 ⟨rfl,hO2⟩;replace hO2:=af hO2)
   go_ret
   exact⟨rfl,(hkeep.out _ hO2.out).2.2⟩
  |true=>
   go_enter Tryz.func223,Tryz.ntmps223
   go_wp2_with(go_at_call 182;(with_reducible refine(cW.out _).mono ?_);rintro e w2 ⟨rfl,hO2⟩;obtain⟨⟨x0,x1⟩,⟨y0,y1⟩,hO3⟩:=hkeep.out _ hO2;replace hO3:=af hO3;clear hO2)
   go_ret
   exact⟨rfl,hO3.out⟩
theorem Gf{w:World}{b:Nat}{x0 x1:Value}{T:TypeId}(h:w.heap[b]?=some (.cells #[x0,x1] T (0,0))):
  (w.cell? ⟨b,0,none⟩=some x0/\w.cell? ⟨b,1,none⟩=some x1)/\w.frozen? ⟨b,0,none⟩=false/\w.frozen? ⟨b,1,none⟩=false/\b<w.heap.size:=
 ⟨⟨cell_of_row _ _ 0 _ _ _ h,cell_of_row _ _ 1 _ _ _ h⟩,frozen_of_row w b 0 _ _ h,frozen_of_row w b 1 _ _ h,aj h⟩
theorem Yo{w:World}{b:Nat}{x0 x1:Value}{T:TypeId}(h:w.heap[b]?=some (.cells #[x0,x1] T (0,0)))(u0 u1:Value):
  ((w.setCell ⟨b,0,none⟩ u0).setCell ⟨b,1,none⟩ u1).heap[b]?=some (.cells #[u0,u1] T (0,0))/\ai [b] w ((w.setCell ⟨b,0,none⟩ u0).setCell ⟨b,1,none⟩ u1):=by
 have h1:=heap_setCell_same w b 0 _ T u0 h;have h2:=heap_setCell_same _ b 1 _ T u1 h1;exact⟨by simpa using h2,((ai.refl [b] w).setCell (.inl (by simp)) _).setCell (.inl (by simp)) _⟩
def xK(x:Bi):ByteArray:=if(x.k1==aG)=true then x.k0 else x.k1
def OW(x:Bi):Value:=.agg #[.string (xK x),.string x.t]
theorem OX(x:Bi)(w:World):Calls Tryz.prog 115 #[.agg (bK x).toArray] w fun e w'=>e=.returned (OW x)/\ai [] w w':=by
 obtain⟨a,b,t⟩:=x;unfold OW xK bK;simp only;have hO:=((ai.refl [] w).alloc (.cells #[.string a,.string b,.string t] 227)).alloc (.cells #[.string ⟨#[]⟩,.string ⟨#[]⟩] 43);have hb:=((ai.refl [] _).alloc (.cells #[.string ⟨#[]⟩,.string ⟨#[]⟩] 43)).heap (heap_alloc_new w (.cells #[.string a,.string b,.string t] 227)) (by simp);have hd:=heap_alloc2_new w (.cells #[.string a,.string b,.string t] 227) (.cells #[.string ⟨#[]⟩,.string ⟨#[]⟩] 43);have cW:=af fun W=>zQ a b W
 generalize(b==aG)=e2 at*;have c0:=cell_of_row _ _ 0 _ _ _ hb;have c1:=cell_of_row _ _ 1 _ _ _ hb;have hkeep:Hid (∀W,ai [] ((w.alloc (.cells #[.string a,.string b,.string t] 227)).alloc (.cells #[.string ⟨#[]⟩,.string ⟨#[]⟩] 43)) W->(W.heap[w.heap.size]?=some (.cells #[.string a,.string b,.string t] 227 (0,0))/\W.heap[w.heap.size+1]?=some (.cells #[.string ⟨#[]⟩,.string ⟨#[]⟩] 43 (0,0)))/\ai [] w W):=af fun W ho=>⟨⟨ho.heap hb (by simp),ho.heap hd (by simp)⟩,hO.trans ho⟩
 clear hb hd hO;go_enter Tryz.func115,Tryz.ntmps115
 go_wp2_with fail
 refine(cW.out _).mono ?_;rintro e w2 ⟨rfl,hO2⟩;obtain⟨⟨hb,hd⟩,hO3⟩:=hkeep.out _ hO2;obtain⟨x0,x1,x2⟩:w2.cell? ⟨w.heap.size,0,none⟩=some (.string a)/\w2.cell? ⟨w.heap.size,1,none⟩=some (.string b)/\w2.cell? ⟨w.heap.size,2,none⟩=some (.string t):=⟨cell_of_row _ _ 0 _ _ _ hb,cell_of_row _ _ 1 _ _ _ hb,cell_of_row _ _ 2 _ _ _ hb⟩;obtain⟨⟨y0,y1⟩,z0,z1,_⟩:=Gf hd;clear c0 c1 cW hkeep hO2 hb;cases e2 with
 |true=>
  obtain⟨hs,hso⟩:=Yo hd (.string a) (.string t);change Hid _ at hs;replace hso:=af (hO3.trans' hso (fun x hx=>.inr (by simp at hx;omega)));clear hd hO3;go_wp2_with fail
  obtain⟨⟨g0,g1⟩,_⟩:=Gf hs.out;exact bodyPost_ret (v:=.agg #[.string a,.string t]) (by simp[results,Tryz.results115,go_sem,g0,g1];try rfl) rfl ⟨rfl,hso.out⟩
 |false=>
  obtain⟨hs,hso⟩:=Yo hd (.string b) (.string t);change Hid _ at hs;replace hso:=af (hO3.trans' hso (fun x hx=>.inr (by simp at hx;omega)));clear hd hO3;go_wp2_with fail
  obtain⟨⟨g0,g1⟩,_⟩:=Gf hs.out;exact bodyPost_ret (v:=.agg #[.string b,.string t]) (by simp[results,Tryz.results115,go_sem,g0,g1];try rfl) rfl ⟨rfl,hso.out⟩
theorem zR(d:ByteArray):(d==aG)=d.toList.isEmpty:=by
 rw[beq_toListBytes,show aG.toList=[]by rw[Lib.toList_data];rfl];cases d.toList<;>rfl
def eH(s:kH):ByteArray×ByteArray:=
 if(iB s).2≠0\/s.k=9 then(aG,aG)else if(iB ⟨1,s.g,s.n,aG⟩).2≠0 then(aG,aG)
 else if(s.d==aG)=true then((iB ⟨1,s.g,s.n,aG⟩).1,aG)else if(iB ⟨5,s.g,s.n,s.d⟩).2≠0 then(aG,aG)else((iB ⟨1,s.g,s.n,aG⟩).1,(iB ⟨5,s.g,s.n,s.d⟩).1)
theorem vK(s:kH)(w:World)(hW:dz w)(hT:jG w)(hM:pG w):Calls Tryz.prog 97 #[.agg #[.int .i64 s.k,.string s.g,.string s.n,.string s.d]] w fun e w'=>e=.returned (.tuple #[.string (eH s).1,.string (eH s).2])/\ai [] w w':=by
 obtain⟨k,g,n,d⟩:=s;obtain⟨R,hR⟩: ∃R,eH ⟨k,g,n,d⟩=R:=⟨_,rfl⟩;rw[hR];unfold eH at hR;simp only at hR;have hA:=(ai.refl [] w).alloc (.cells #[.int .i64 k,.string g,.string n,.string d] 76);have hb:=heap_alloc_new w (.cells #[.int .i64 k,.string g,.string n,.string d] 76);have hkeep:Hid (∀W,ai [] (w.alloc (.cells #[.int .i64 k,.string g,.string n,.string d] 76)) W->W.heap[w.heap.size]?=some (.cells #[.int .i64 k,.string g,.string n,.string d] 76 (0,0))/\ai [] w W):=af fun W ho=>⟨ho.heap hb (by simp),hA.trans ho⟩
 have cP:=af fun s W (ho:ai [] w W)=>Iq s W (hW.own ho) (hT.own (S:=[]) ho (by simp)) (hM.own ho)
 have hdd:d.toList.isEmpty=(d==aG):=(zR d).symm;obtain⟨⟨c0,c1,c2,c3⟩,-⟩:=q4 hb;generalize(d==aG)=e0 at*;have MZ:=cP.out ⟨k,g,n,d⟩ _ hA;clear hb;generalize hp1:iB ⟨k,g,n,d⟩=r1 at*;obtain⟨t1,e1⟩:=r1;unfold ES at MZ;simp only at MZ hR;change Hid _ at hR;replace MZ:=af MZ;go_enter Tryz.func97,Tryz.ntmps97
 go_wp2_with fail
 refine MZ.out.mono ?_;rintro e w2 ⟨rfl,hO2⟩;obtain⟨hb2,mR⟩:=hkeep.out _ hO2;obtain⟨⟨d0,d1,d2,d3⟩,-⟩:=q4 hb2;clear MZ c0 c1 c2 c3 hO2;by_cases h1:e1≠0
 ·have hR':=hR.out
  rw[if_pos (.inl h1)]at hR';subst hR';have q:(e1 !=0)=true:=by simpa using h1
  change Hid _ at mR;clear h1 hp1;go_wp2_with fail
  go_ret2
  exact⟨rfl,mR.out⟩
 have q1:(e1 !=0)=false:=by simpa using h1
 by_cases h9:k=9
 ·have hR':=hR.out
  rw[if_pos (.inr h9)]at hR';subst hR';have q:(k==9)=true:=by simpa using h9
  change Hid _ at mR;clear h1 hp1 h9;go_wp2_with fail
  go_ret2
  exact⟨rfl,mR.out⟩
 have hR2:=hR.out;rw[if_neg (by simp[h1,h9])]at hR2;replace hR:=af hR2;clear hR2;have q9:(k==9)=false:=by simpa using h9
 have Eo:=cP.out ⟨1,g,n,aG⟩ _ mR;replace hR:=hR.out;generalize hp2:iB ⟨1,g,n,aG⟩=r2 at*;obtain⟨t2,e2⟩:=r2;simp only at hR;change Hid _ at hR;unfold ES at Eo;simp only at Eo;change Calls Tryz.prog 52 #[.agg #[.int .i64 1,.string g,.string n,.string ⟨#[]⟩]] w2 _ at Eo;replace Eo:=af Eo;clear h1 h9 hp1 hp2;go_wp2_with fail
 refine Eo.out.mono ?_;rintro e w3 ⟨rfl,hO3⟩;have hb3:=hO3.heap hb2 (by simp);have dO:=mR.trans hO3;obtain⟨⟨f0,f1,f2,f3⟩,-⟩:=q4 hb3;clear Eo d0 d1 d2 d3 hb2 mR hO3;by_cases h2:e2≠0
 ·have hR':=hR.out
  rw[if_pos h2]at hR';subst hR';have q:(e2 !=0)=true:=by simpa using h2
  change Hid _ at dO;clear h2;go_wp2_with fail
  go_ret2
  exact⟨rfl,dO.out⟩
 have hR2:=hR.out;rw[if_neg h2]at hR2;replace hR:=af hR2;clear hR2;have q2:(e2 !=0)=false:=by simpa using h2
 clear h2;cases e0 with
 |true=>
  have hR':=hR.out;rw[if_pos rfl]at hR';subst hR';change Hid _ at dO;go_wp2_with fail
  go_ret2
  exact⟨rfl,dO.out⟩
 |false=>
  have hR2:=hR.out;rw[if_neg (by simp)]at hR2;replace hR:=af hR2;clear hR2;have XY:=cP.out ⟨5,g,n,d⟩ _ dO;replace hR:=hR.out;generalize hp3:iB ⟨5,g,n,d⟩=r3 at*;obtain⟨t3,e3⟩:=r3;simp only at hR;change Hid _ at hR;unfold ES at XY;simp only at XY;replace XY:=af XY;clear hp3;go_wp2_with fail
  refine XY.out.mono ?_;rintro e w4 ⟨rfl,hO4⟩;have sH:=dO.trans hO4;change Hid _ at sH;clear XY hO4 dO f0 f1 f2 f3 hb3;by_cases h3:e3≠0
  ·have hR':=hR.out
   rw[if_pos h3]at hR';subst hR';have q:(e3 !=0)=true:=by simpa using h3
   clear h3;go_wp2_with fail
   go_ret2
   exact⟨rfl,sH.out⟩
  ·have hR':=hR.out
   rw[if_neg h3]at hR';subst hR';have q:(e3 !=0)=false:=by simpa using h3
   clear h3;go_wp2_with fail
   go_ret2
   exact⟨rfl,sH.out⟩
end Go.Proofs.YtedcakchekaemaaGreatDoor
