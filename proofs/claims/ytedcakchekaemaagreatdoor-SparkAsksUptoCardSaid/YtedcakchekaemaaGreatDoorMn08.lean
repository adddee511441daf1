import Derived.Test.YtedcakchekaemaaGreatDoorMn05
import Derived.Test.YtedcakchekaemaaGreatDoorMn07
set_option maxRecDepth 100000
set_option maxHeartbeats 16000000
set_option linter.all false
namespace Go.Proofs.YtedcakchekaemaaGreatDoor
open Go.RowKit
variable [Kd]
theorem Kj{B:List Int}(hB:ol B){i:Nat}(h:i+8<=B.length):jY .u64 64 8 B i=(lu ((B.drop i).take 8),(i:Int)+8,0):=by
 have hc:kL B.length i (8:Nat)=0:=by unfold kL;rw[if_neg (by omega),if_neg (by omega)]
 have hl:((B.drop i).take 8).length=8:=by rw[List.length_take,List.length_drop];omega
 have e:=Yi ((hB.drop i).take 8) (by omega) 8 (by omega);unfold jY;rw[if_pos hc];simp only[Int.toNat_natCast];rw[e,List.take_of_length_le (by omega)];rfl
theorem Kk{B:List Int}(hB:ol B){i:Nat}(h:i+4<=B.length):jY .u32 32 4 B i=(lu ((B.drop i).take 4),(i:Int)+4,0):=by
 have hc:kL B.length i (4:Nat)=0:=by unfold kL;rw[if_neg (by omega),if_neg (by omega)]
 have hl:((B.drop i).take 4).length=4:=by rw[List.length_take,List.length_drop];omega
 have e:=Yh ((hB.drop i).take 4) (by omega) 4 (by omega);unfold jY;rw[if_pos hc];simp only[Int.toNat_natCast];rw[e,List.take_of_length_le (by omega)];rfl
theorem Ou{B:List Int}{i:Nat}(h: ¬i+8<=B.length)(hi:i<=B.length):jY .u64 64 8 B i=(0,0,2):=by
 have hc:kL B.length i (8:Nat)=2:=by unfold kL;rw[if_neg (by omega),if_pos (by omega)]
 unfold jY;rw[hc];rfl
theorem Ov{B:List Int}{i:Nat}(h: ¬i+4<=B.length)(hi:i<=B.length):jY .u32 32 4 B i=(0,0,2):=by
 have hc:kL B.length i (4:Nat)=2:=by unfold kL;rw[if_neg (by omega),if_pos (by omega)]
 unfold jY;rw[hc];rfl
def nH(n:Nat)(B:List Int)(r:Nat)(v:Value)(i:Nat)(op out:Value)(w:World)(e:Ending)(w':World):Prop:=
 match uO n B i with
 |some (x,j)=>e=.returned (.tuple #[.int .u64 x,.int .i64 0])/\w'.heap[r]?=some (.cells (eF v j op out) 339 (0,0))/\ai [r] w w'
 |none=>(∃ec:Int,ec≠0/\e=.returned (.tuple #[.int .u64 0,.int .i64 ec]))/\ai [] w w'
theorem Kl(r:Nat)(v op out:Value)(B:List Int)(i:Nat)(w:World)(h:w.heap[r]?=some (.cells (eF v i op out) 339 (0,0)))(hR:aA bL w v B)(hc:eB v)(hB:ol B)(hl:B.length<=4096)(hi:i<=B.length):
  Calls Tryz.prog 291 #[.pointer (some ⟨r,0,none⟩),.int .i64 1] w (nH 8 B r v i op out w):=by
 obtain⟨⟨c0,c1,c2,c3⟩,hf⟩:=Oq h;have f1:=hf 1;have BH:=fun q=>Calls.quiet_of_same ((Oo v B i (w.drewN q) (hR.nil' ((ai.refl [] w).drewN q)) hc (by omega) (by omega)).mono (fun _ _ h=>⟨h.1,h.2.symm⟩))
 have h4:=af fun q=>(AR (w:=w.drewN q) (i+8) h).1
 have hO:=af fun q=>((ai.refl [r] w).drewN q).setCell (p:=⟨r,1,none⟩) (.inl (by simp)) (.int .i64 ((i:Int)+8))
 rw[show((i+8:Nat):Int)=(i:Int)+8 by omega]at h4;unfold nH uO;by_cases hx:i+8<=B.length
 ·rw[if_pos hx]
  simp only[Kj hB hx]at BH;obtain⟨R,hRR⟩: ∃R,lu ((B.drop i).take 8)=R:=⟨_,rfl⟩;simp only[hRR]at BH;rw[hRR];change Hid _ at BH;clear hR hc hB h hf hRR hx;go_enter Tryz.func291,Tryz.ntmps291
  go_wp2_with fail
  go_quiet((go_at_call 318;exact BH.out _))
  go_wp2_with fail
  go_ret2
  exact⟨rfl,h4.out _,hO.out _⟩
 ·rw[if_neg hx]
  simp only[Ou hx hi]at BH;change Hid _ at BH;clear hR hc hB h hf hx;go_enter Tryz.func291,Tryz.ntmps291
  go_wp2_with fail
  go_quiet((go_at_call 318;exact BH.out _))
  go_wp2_with fail
  go_ret2
  exact⟨⟨2,by decide,rfl⟩,(ai.refl [] w).drewN _⟩
theorem Km(r:Nat)(v op out:Value)(B:List Int)(i:Nat)(w:World)(h:w.heap[r]?=some (.cells (eF v i op out) 339 (0,0)))(hR:aA bL w v B)(hc:eB v)(hB:ol B)(hl:B.length<=4096)(hi:i<=B.length):
  Calls Tryz.prog 291 #[.pointer (some ⟨r,0,none⟩),.int .i64 5] w (nH 4 B r v i op out w):=by
 obtain⟨⟨c0,c1,c2,c3⟩,hf⟩:=Oq h;have f1:=hf 1;have BH:=fun q=>Calls.quiet_of_same ((Om v B i (w.drewN q) (hR.nil' ((ai.refl [] w).drewN q)) hc (by omega) (by omega)).mono (fun _ _ h=>⟨h.1,h.2.symm⟩))
 have h4:=af fun q=>(AR (w:=w.drewN q) (i+4) h).1
 have hO:=af fun q=>((ai.refl [r] w).drewN q).setCell (p:=⟨r,1,none⟩) (.inl (by simp)) (.int .i64 ((i:Int)+4))
 rw[show((i+4:Nat):Int)=(i:Int)+4 by omega]at h4;unfold nH uO;by_cases hx:i+4<=B.length
 ·rw[if_pos hx]
  simp only[Kk hB hx]at BH;have hb:=jv ((B.drop i).take 4) ((hB.drop i).take 4);rw[show((B.drop i).take 4).length=4 by rw[List.length_take,List.length_drop];omega]at hb;obtain⟨R,hRR⟩: ∃R,lu ((B.drop i).take 4)=R:=⟨_,rfl⟩;simp only[hRR]at BH;rw[hRR]at hb⊢;have hw:IntKind.wrap .u64 R=R:=by
   have:(2:Int)^(8*4)=4294967296:=by decide
   rw[IntKind.wrap_u64];omega
  change Hid _ at BH;clear hR hc hB h hf hRR hx hb;go_enter Tryz.func291,Tryz.ntmps291
  go_wp2_with fail
  go_quiet((go_at_call 319;exact BH.out _))
  go_wp2_with fail
  go_ret2
  exact⟨rfl,h4.out _,hO.out _⟩
 ·rw[if_neg hx]
  simp only[Ov hx hi]at BH;change Hid _ at BH;clear hR hc hB h hf hx;go_enter Tryz.func291,Tryz.ntmps291
  go_wp2_with fail
  go_quiet((go_at_call 319;exact BH.out _))
  go_wp2_with fail
  go_ret2
  exact⟨⟨2,by decide,rfl⟩,(ai.refl [] w).drewN _⟩
def iL(x:Int):List Value:=[.int .i64 x]
theorem Ow(x:Int):(iL x).length=1:=rfl
theorem Yj:(Tryz.prog.info? 3).map (fun i=>(i.zero,i.size,i.bytes))=some (some (.int .i64 0),1,8):=by kernel_rfl
theorem Ox:je Tryz.prog 27 3 iL 1 8 where
 ut:=Tryz.underlying27
 info:=by obtain⟨i,h1,h2,h3,h4⟩:=info_parts Yj;exact⟨i,_,h1,h2,h3,h4,rfl⟩
 pos:=by omega
 len:=fun _=>rfl
 one x u hu:=by simp only[iL,List.mem_cons,List.not_mem_nil,or_false]at hu;subst hu;rfl
def fL(f:bG):List Value:=[.int .i64 f.num,.int .i64 f.kind,.int .u64 f.val,.string f.text]
theorem dX(f:bG):(fL f).length=4:=rfl
theorem Yk:(Tryz.prog.info? 100).map (fun i=>(i.zero,i.size,i.bytes))=some (some (.agg #[.int .i64 0,.int .i64 0,.int .u64 0,.string ⟨#[]⟩]),4,40):=by kernel_rfl
theorem zL:je Tryz.prog 96 100 fL 4 40 where
 ut:=Tryz.underlying96
 info:=by obtain⟨i,h1,h2,h3,h4⟩:=info_parts Yk;exact⟨i,_,h1,h2,h3,h4,rfl⟩
 pos:=by omega
 len:=fun _=>rfl
 one x u hu:=by simp only[fL,List.mem_cons,List.not_mem_nil,or_false]at hu;rcases hu with rfl|rfl|rfl|rfl<;>rfl
theorem Sl.cut{α:Type}{enc:α->List Value}{k:Nat}{P:Program}{T t:TypeId}{base bytes:Nat}{w:World}{v:Value}{l:List α}(h:Sl T enc k base w v l)(E:je P t T enc k bytes){i:Nat}(hi:i<=l.length):
  ∃v1,(∀W,(Instr.sliceAt t v none (some (.int .i64 i)) none).run P W=.ok v1 W)/\Sl T enc k base w v1 (l.take i)/\v1.ownBlock=v.ownBlock:=by
 obtain⟨inf,z,BF,_,hsz,_,_⟩:=E.info;have hs: ∀W,(sizeOf T).run P W=.ok k W:=fun W=>by simp[sizeOf,typeInfo,BF,hsz]
 have hi0:(0:Int)<=i:=by omega
 rcases h.form with⟨rfl,rfl⟩|⟨g,cap,rfl,hb,hR⟩
 ·obtain rfl:i=0:=by simpa using hi
  refine⟨.slice none 0 0,fun W=>?_,Sl.nil _ _ _,rfl⟩;simp[Instr.sliceAt,Instr.slice,run_underlying E.ut,Instr.sliceBounds,run_sliceBound,hs,Result.andThen]
 ·obtain⟨cur,h0,h1,h2,h3,h4⟩:=hR
  have hle:i*k<=l.length*k:=Nat.mul_le_mul_right _ hi;have hrow:qD T enc k w g cap (l.take i):=by
   refine⟨cur,h0,by rw[List.length_take];omega,h2,h3,?_⟩;rw[List.length_take_of_le hi];have e:(cur.toList.take (l.length*k)).take (i*k)=(aC enc l).take (i*k):=by rw[h4]
   rw[List.take_take,Nat.min_eq_left hle]at e;rw[e]
   conv=>lhs;rw[<-List.take_append_drop i l,bO]
   rw[List.take_append_of_le_length (by rw[aW E.len,List.length_take_of_le hi];exact Nat.le_refl _),List.take_of_length_le (by rw[aW E.len,List.length_take_of_le hi];exact Nat.le_refl _)]
  have hS:=Sl.of_row hrow E.len hb;rw[List.length_take_of_le hi]at hS;refine⟨.slice (some ⟨g,0,none⟩) i cap,fun W=>?_,hS,rfl⟩;have h2:(i:Int)<=cap:=by omega
  simp[Instr.sliceAt,Instr.slice,run_underlying E.ut,Instr.sliceBounds,run_sliceBound,hs,Result.andThen,hi0,h2,Addr.add]
structure sK (W0 w:World) (r:Nat) (v fM aT:Value) (s:tu):Prop where
 own:ai [] W0 w
 blk:w.heap[r]?=some (.cells (eF v s.at' fM aT) 339 (0,0))
 base:W0.heap.size<=r
 op:Sl 3 iL 1 W0.heap.size w fM s.op
 out:Sl 100 fL 4 W0.heap.size w aT s.out
 ro: ∀g,fM.ownBlock=some g->g≠r
 rt: ∀g,aT.ownBlock=some g->g≠r
 ot: ∀g,fM.ownBlock=some g->aT.ownBlock≠some g
section
variable {W0 w w' : World} {r : Nat} {v fM aT : Value} {s : tu}
theorem sK.at'(h:sK W0 w r v fM aT s){j:Nat}(h1:w'.heap[r]?=some (.cells (eF v j fM aT) 339 (0,0)))(hO:ai [r] w w'):sK W0 w' r v fM aT ⟨j,s.op,s.out⟩:=
 ⟨h.own.trans' hO (fun x hx=>.inr (by simp at hx;subst hx;exact h.base)),h1,h.base,h.op.own hO (fun b hb=>by simpa using h.ro b hb),h.out.own hO (fun b hb=>by simpa using h.rt b hb),h.ro,h.rt,h.ot⟩
theorem sK.nil'(h:sK W0 w r v fM aT s)(hO:ai [] w w'):sK W0 w' r v fM aT s:=
 ⟨h.own.trans hO,hO.heap h.blk (by simp),h.base,h.op.nil' hO,h.out.nil' hO,h.ro,h.rt,h.ot⟩
theorem sK.opened(h:sK W0 w r v fM aT s){w1:World}{v':Value}{l:List Int}(h1:Sl 3 iL 1 W0.heap.size w1 v' l)(h2:ai fM.ownBlock.toList w w1)(h3: ∀g,v'.ownBlock=some g->fM.ownBlock=some g\/w.heap.size<=g):
  (w1.cell? ⟨r,2,none⟩=some fM/\w1.frozen? ⟨r,2,none⟩=false)/\sK W0 (w1.setCell ⟨r,2,none⟩ v') r v v' aT ⟨s.at',l,s.out⟩:=by
 have hro:r∉fM.ownBlock.toList:=fun hx=>by
  cases hb:fM.ownBlock with
  |none=>rw[hb]at hx;simp at hx
  |some g=>rw[hb]at hx;simp at hx;exact h.ro g hb hx.symm
 have hb1:=h2.heap h.blk hro;have hrl:=aj h.blk;have hsz:=h2.size;have hO2:ai [r] w1 (w1.setCell ⟨r,2,none⟩ v'):=(ai.refl _ _).setCell (.inl (by simp)) _;have gV:ai [] W0 w1:=h.own.trans' h2 (fun x hx=>.inr (by
  cases hb:fM.ownBlock with
  |none=>rw[hb]at hx;simp at hx
  |some g=>rw[hb]at hx;simp at hx;subst hx;exact(h.op.block hb).1))
 have hnr: ∀g,v'.ownBlock=some g->g≠r:=fun g hg=>by
  rcases h3 g hg with h4|h4
  ·exact h.ro g h4
  ·omega
 have hout1:Sl 100 fL 4 W0.heap.size w1 aT s.out:=h.out.own h2 (fun b hb hx=>by
  cases hv:fM.ownBlock with
  |none=>rw[hv]at hx;simp at hx
  |some g=>rw[hv]at hx;simp at hx;subst hx;exact h.ot _ hv hb)
 refine⟨⟨by rw[cell_of_row _ _ _ _ _ _ hb1];rfl,frozen_of_row _ r 2 _ _ hb1⟩,gV.trans' hO2 (fun x hx=>.inr (by simp at hx;subst hx;exact h.base)),?_,h.base,h1.own hO2 (fun b hb=>by simpa using hnr b hb),hout1.own hO2 (fun b hb=>by simpa using h.rt b hb),hnr,h.rt,fun g hg hx=>?_⟩
 ·have:=heap_setCell_same _ r 2 _ _ v' hb1
  simpa[eF]using this
 ·rcases h3 g hg with h4|h4
  ·exact h.ot g h4 hx
  ·have:=(h.out.block hx).2;omega
theorem sK.took(h:sK W0 w r v fM aT s){w1:World}{v':Value}{l:List bG}(h1:Sl 100 fL 4 W0.heap.size w1 v' l)(h2:ai aT.ownBlock.toList w w1)(h3: ∀g,v'.ownBlock=some g->aT.ownBlock=some g\/w.heap.size<=g):
  (w1.cell? ⟨r,3,none⟩=some aT/\w1.frozen? ⟨r,3,none⟩=false)/\sK W0 (w1.setCell ⟨r,3,none⟩ v') r v fM v' ⟨s.at',s.op,l⟩:=by
 have hro:r∉aT.ownBlock.toList:=fun hx=>by
  cases hb:aT.ownBlock with
  |none=>rw[hb]at hx;simp at hx
  |some g=>rw[hb]at hx;simp at hx;exact h.rt g hb hx.symm
 have hb1:=h2.heap h.blk hro;have hrl:=aj h.blk;have hsz:=h2.size;have hO2:ai [r] w1 (w1.setCell ⟨r,3,none⟩ v'):=(ai.refl _ _).setCell (.inl (by simp)) _;have gV:ai [] W0 w1:=h.own.trans' h2 (fun x hx=>.inr (by
  cases hb:aT.ownBlock with
  |none=>rw[hb]at hx;simp at hx
  |some g=>rw[hb]at hx;simp at hx;subst hx;exact(h.out.block hb).1))
 have hnr: ∀g,v'.ownBlock=some g->g≠r:=fun g hg=>by
  rcases h3 g hg with h4|h4
  ·exact h.rt g h4
  ·omega
 have hop1:Sl 3 iL 1 W0.heap.size w1 fM s.op:=h.op.own h2 (fun b hb hx=>by
  cases hv:aT.ownBlock with
  |none=>rw[hv]at hx;simp at hx
  |some g=>rw[hv]at hx;simp at hx;subst hx;exact h.ot _ hb hv)
 refine⟨⟨by rw[cell_of_row _ _ _ _ _ _ hb1];rfl,frozen_of_row _ r 3 _ _ hb1⟩,gV.trans' hO2 (fun x hx=>.inr (by simp at hx;subst hx;exact h.base)),?_,h.base,hop1.own hO2 (fun b hb=>by simpa using h.ro b hb),h1.own hO2 (fun b hb=>by simpa using hnr b hb),h.ro,hnr,fun g hg hx=>?_⟩
 ·have:=heap_setCell_same _ r 3 _ _ v' hb1
  simpa[eF]using this
 ·rcases h3 g hx with h4|h4
  ·exact h.ot g hg h4
  ·have:=(h.op.block hg).2;omega
end
def bS(t:Option tu)(W0:World)(r:Nat)(v:Value)(e:Ending)(w':World):Prop:=
 match t with
 |some s'=>e=.returned (.int .i64 0)/\ ∃MF Ao,sK W0 w' r v MF Ao s'
 |none=>(∃ec:Int,ec≠0/\e=.returned (.int .i64 ec))/\ai [] W0 w'
theorem FQ(W0 w:World)(r:Nat)(v fM aT:Value)(s:tu)(num:Int)(h:sK W0 w r v fM aT s):
  Calls Tryz.prog 254 #[.pointer (some ⟨r,0,none⟩),.int .i64 num] w (bS (if 8<=s.op.length then none else some ⟨s.at',s.op++[num],s.out⟩) W0 r v):=by
 obtain⟨⟨c0,c1,c2,c3⟩,hf⟩:=Oq h.blk;have f2:=hf 2;obtain⟨oa,oc,rfl⟩:=h.op.sl;unfold bS;by_cases h8:8<=s.op.length
 ·rw[if_pos h8]
  have hO:=af h.own;have h8':(8:Int)<=s.op.length:=by omega
  clear h hf;generalize s.op.length=n at*;go_enter Tryz.func254,Tryz.ntmps254
  go_wp2_with fail
  go_ret
  exact⟨⟨12,by decide,rfl⟩,hO.out⟩
 ·rw[if_neg h8]
  have h8': ¬(8:Int)<=s.op.length:=by omega
  have hA:=h.nil' ((ai.refl [] w).alloc (.cells #[.int .i64 num] 3));have hRb:=af (aA.new (enc:=iL) (T:=3) w num 1);have hlen:(s.op.length+1)*8<=140737488355328:=by omega
  have hmx:s.op.length+1<=maxLen:=by unfold maxLen;omega
  replace hA:=af hA;clear h hf h8;generalize hn:s.op.length=n at*;change Hid _ at hn;go_enter Tryz.func254,Tryz.ntmps254
  go_wp2_with(at_builtin;refine aO rfl (.tmp 15) (.tmp 17) rfl Ox hA.out.own rfl hA.out.op rfl hRb.out (by rw[hn.out];exact hlen) (by rw[hn.out];exact hmx) ?_;intro v' w1 hS1 aH _ hg1 hv1;obtain⟨a2,k2,rfl⟩:=hS1.sl;obtain⟨⟨d2,f2'⟩,hR⟩:=hA.out.opened hS1 hv1 hg1;replace hR:=af hR;clear hS1 aH hg1 hv1)
  go_ret
  have hR':=hR.out;rw[show(s.op++[num]).length=s.op.length+1 by simp]at hR';exact⟨rfl,_,_,hR'⟩
theorem Oy{l:List Int}(h:0<l.length):l.getLast?=l[l.length-1]?:=List.getLast?_eq_getElem?
theorem Oz(W0 w:World)(r:Nat)(v fM aT:Value)(s:tu)(num:Int)(h:sK W0 w r v fM aT s)(h8:s.op.length<=8):
  Calls Tryz.prog 255 #[.pointer (some ⟨r,0,none⟩),.int .i64 num] w (bS (if s.op.getLast?=some num then some ⟨s.at',s.op.dropLast,s.out⟩else none) W0 r v):=by
 obtain⟨⟨c0,c1,c2,c3⟩,hf⟩:=Oq h.blk;have f2:=hf 2;obtain⟨oa,oc,rfl⟩:=h.op.sl;unfold bS;by_cases h0:s.op.length=0
 ·have he:s.op.getLast?=none:=by rw[List.eq_nil_of_length_eq_zero h0];rfl
  rw[he,if_neg (by simp)];have hO:=af h.own;rw[h0]at c2;clear h hf h0 he h8;go_enter Tryz.func255,Tryz.ntmps255
  go_wp2_with fail
  go_ret
  exact⟨⟨4,by decide,rfl⟩,hO.out⟩
 ·obtain⟨q,hq⟩: ∃q,s.op[s.op.length-1]?=some q:=⟨_,List.getElem?_eq_getElem (by omega)⟩
  obtain⟨bb,oo,hab,hx⟩:=(h.op.reads Ow).at_ Ow (by omega);have e:=hx (s.op.length-1) q 0 _ hq rfl;simp only[Nat.mul_one,Nat.add_zero]at e;rw[Oy (by omega),hq];have hw:IntKind.wrap .i64 ((s.op.length:Int)-1)=((s.op.length-1:Nat):Int):=by rw[IntKind.wrap_i64];omega
  have hn1:s.op.length-1<s.op.length:=by omega
  subst hab;by_cases hqn:q=num
  ·subst hqn
   rw[if_pos rfl];obtain⟨v1,hs,hS1,hb1⟩:=h.op.cut Ox (i:=s.op.length-1) (by omega);rw[<-List.dropLast_eq_take]at hS1;obtain⟨a1,k1,rfl⟩:=hS1.sl;have hR:=af (h.opened hS1 ((ai.refl _ w)) (fun g hg=>.inl (hb1▸hg))).2;have Jr:(q !=q)=false:=by simp
   clear h hf h0 hx hq h8 hS1 hb1;generalize hm:s.op.length-1=m at*;generalize s.op.length=n at*;change Hid _ at hm;go_enter Tryz.func255,Tryz.ntmps255
   go_wp2_with fail
   go_ret
   have hR':=hR.out;rw[List.length_dropLast]at hR';exact⟨rfl,_,_,hR'⟩
  ·rw[if_neg (by simpa using hqn)]
   have hO:=af h.own;have Jr:(q !=num)=true:=by simpa using hqn
   clear h hf h0 hx hq h8 hqn;generalize hm:s.op.length-1=m at*;generalize s.op.length=n at*;change Hid _ at hm;go_enter Tryz.func255,Tryz.ntmps255
   go_wp2_with fail
   go_ret
   exact⟨⟨4,by decide,rfl⟩,hO.out⟩
end Go.Proofs.YtedcakchekaemaaGreatDoor
namespace Go.Proofs.YtedcakchekaemaaGreatDoor
open Go.RowKit
variable [Kd]
section
variable {W0 w w' : World} {r : Nat} {v fM aT : Value} {s : tu}
theorem sK.other(h:sK W0 w r v fM aT s){S:List Nat}(hO:ai S w w')(hr:r∉S)(ho: ∀g,fM.ownBlock=some g->g∉S)(ht: ∀g,aT.ownBlock=some g->g∉S)(hb: ∀x∈S,W0.heap.size<=x):sK W0 w' r v fM aT s:=
 ⟨h.own.trans' hO (fun x hx=>.inr (hb x hx)),hO.heap h.blk hr,h.base,h.op.own hO ho,h.out.own hO ht,h.ro,h.rt,h.ot⟩
structure FR (W0 w:World) (r fb:Nat) (v fM aT:Value) (s:tu) (f:bG):Prop where
 rd:sK W0 w r v fM aT s
 row:w.heap[fb]?=some (.cells (fL f).toArray 100 (0,0))
 nr:fb≠r
 no: ∀g,fM.ownBlock=some g->g≠fb
 nt: ∀g,aT.ownBlock=some g->g≠fb
 ba:W0.heap.size<=fb
theorem sK.field(h:sK W0 w r v fM aT s)(num kind:Int):FR W0 (w.alloc (.cells #[.int .i64 num,.int .i64 kind,.int .u64 0,.string ⟨#[]⟩] 100)) r w.heap.size v fM aT s ⟨num,kind,0,⟨#[]⟩⟩:=
 ⟨h.nil' ((ai.refl _ _).alloc _),heap_alloc_new _ _,fun e=>by have:=aj h.blk;omega,fun g hg=>by have:=(h.op.block hg).2;omega,fun g hg=>by have:=(h.out.block hg).2;omega,h.own.size⟩
theorem FR.at'{fb:Nat}{f:bG}(h:FR W0 w r fb v fM aT s f){j:Nat}(h1:w'.heap[r]?=some (.cells (eF v j fM aT) 339 (0,0)))(hO:ai [r] w w'):FR W0 w' r fb v fM aT ⟨j,s.op,s.out⟩ f:=
 ⟨h.rd.at' h1 hO,hO.heap h.row (by simpa using h.nr),h.nr,h.no,h.nt,h.ba⟩
theorem FR.cells{fb:Nat}{f:bG}(h:FR W0 w r fb v fM aT s f):(w.cell? ⟨fb,0,none⟩=some (.int .i64 f.num)/\w.cell? ⟨fb,1,none⟩=some (.int .i64 f.kind)/\w.cell? ⟨fb,2,none⟩=some (.int .u64 f.val)/\w.cell? ⟨fb,3,none⟩=some (.string f.text))/\(∀j,w.frozen? ⟨fb,j,none⟩=false)/\
  (w.cell? ⟨r,2,none⟩=some fM/\w.cell? ⟨r,3,none⟩=some aT/\ ∀j,w.frozen? ⟨r,j,none⟩=false):=by
 obtain⟨⟨_,_,c2,c3⟩,hf⟩:=Oq h.rd.blk;exact⟨⟨by rw[cell_of_row _ _ _ _ _ _ h.row];rfl,by rw[cell_of_row _ _ _ _ _ _ h.row];rfl,by rw[cell_of_row _ _ _ _ _ _ h.row];rfl,by rw[cell_of_row _ _ _ _ _ _ h.row];rfl⟩,fun j=>frozen_of_row _ _ j _ _ h.row,c2,c3,hf⟩
theorem FR.nil'{fb:Nat}{f:bG}(h:FR W0 w r fb v fM aT s f)(hO:ai [] w w'):FR W0 w' r fb v fM aT s f:=
 ⟨h.rd.nil' hO,hO.heap h.row (by simp),h.nr,h.no,h.nt,h.ba⟩
theorem FR.setVal{fb:Nat}{f:bG}(h:FR W0 w r fb v fM aT s f)(x:Int):FR W0 (w.setCell ⟨fb,2,none⟩ (.int .u64 x)) r fb v fM aT s {f with val:=x}:=by
 have hO:ai [fb] w (w.setCell ⟨fb,2,none⟩ (.int .u64 x)):=(ai.refl _ _).setCell (.inl (by simp)) _;refine⟨h.rd.other hO (by simpa using h.nr.symm) (fun g hg=>by simpa using h.no g hg) (fun g hg=>by simpa using h.nt g hg) (fun y hy=>by simp at hy;subst hy;exact h.ba),?_,h.nr,h.no,h.nt,h.ba⟩;have:=heap_setCell_same _ fb 2 _ _ (.int .u64 x) h.row;simpa[fL]using this
theorem FR.setText{fb:Nat}{f:bG}(h:FR W0 w r fb v fM aT s f)(x:ByteArray):FR W0 (w.setCell ⟨fb,3,none⟩ (.string x)) r fb v fM aT s {f with text:=x}:=by
 have hO:ai [fb] w (w.setCell ⟨fb,3,none⟩ (.string x)):=(ai.refl _ _).setCell (.inl (by simp)) _;refine⟨h.rd.other hO (by simpa using h.nr.symm) (fun g hg=>by simpa using h.no g hg) (fun g hg=>by simpa using h.nt g hg) (fun y hy=>by simp at hy;subst hy;exact h.ba),?_,h.nr,h.no,h.nt,h.ba⟩;have:=heap_setCell_same _ fb 3 _ _ (.string x) h.row;simpa[fL]using this
end
theorem VF(B:List Int)(i:Nat)(num:Int):si B i num 0=(nD B i).map fun p=>(⟨num,0,p.1,⟨#[]⟩⟩,p.2):=by simp[si]
theorem VG(B:List Int)(i:Nat)(num:Int):si B i num 1=(uO 8 B i).map fun p=>(⟨num,1,p.1,⟨#[]⟩⟩,p.2):=by simp[si]
theorem VH(B:List Int)(i:Nat)(num:Int):si B i num 5=(uO 4 B i).map fun p=>(⟨num,5,p.1,⟨#[]⟩⟩,p.2):=by simp[si]
theorem VI(B:List Int)(i:Nat)(num:Int):si B i num 2=(Ot B i).map fun p=>(⟨num,2,0,p.1⟩,p.2):=by
 unfold si Ot;rw[if_neg (by decide),if_pos rfl];cases nD B i with
 |none=>rfl
 |some p=>
  simp only[Option.bind_some];split<;>rfl
end Go.Proofs.YtedcakchekaemaaGreatDoor
namespace Go.Proofs.YtedcakchekaemaaGreatDoor
open Go.RowKit
variable [Kd]
theorem FW(W0 w:World)(r:Nat)(v fM aT:Value)(B:List Int)(s:tu)(num:Int)(h:sK W0 w r v fM aT s)(hR:aA bL W0 v B)(hrb: ∀b,v.ownBlock=some b->b<W0.heap.size)(hc:eB v)(hB:ol B)(hl:B.length<=4096)(hi:s.at'<=B.length)(ul:s.out.length<=256):
  Calls Tryz.prog 256 #[.pointer (some ⟨r,0,none⟩),.int .i64 num,.int .i64 2] w (bS (iK B s num 2) W0 r v):=by
 have hF:=h.field num 2;have sM:=hR.nil' hF.rd.own;have wm: ∀b,v.ownBlock=some b->b≠r:=fun b hb=>by have:=hrb b hb;have:=h.base;omega
 obtain⟨oa,oc,rfl⟩:=h.op.sl;obtain⟨ta,tc,rfl⟩:=h.out.sl;have cN:=Ki r v _ _ B s.at' _ hF.rd.blk sM wm hc hB hl hi;unfold AU at cN;unfold bS iK;rw[VI];have hnr:=hF.nr;cases hv:Ot B s.at' with
 |none=>
  rw[hv]at cN;simp only[Option.map_none,Option.bind_none];have gV:=af hF.rd.own;have hb0:=af hF.rd.base;have hrow:=af hF.row;have WK:=af h.own.size;replace cN:=af cN;clear hv h hF hR sM hrb wm hc hB;go_enter Tryz.func256,Tryz.ntmps256
  go_wp2_with fail
  refine cN.out.mono ?_;rintro e w1 ⟨⟨ec,ay,rfl⟩,hO⟩;have h1:(ec !=0)=true:=by simpa using ay
  have aH:=af (gV.out.trans' hO (fun x hx=>.inr (by simp at hx;try(subst hx;exact hb0.out))));have hr1:=hO.heap hrow.out (by simp[hnr]);have g3:=cell_of_row _ w.heap.size 3 _ _ _ hr1;have z3:=frozen_of_row _ w.heap.size 3 _ _ hr1;have hO2:=af (aH.out.setCell (p:=⟨w.heap.size,3,none⟩) (.inr (by have:=gV.out.size;simp at this⊢;exact WK.out)) (.string ⟨#[]⟩));change Hid _ at ay;clear hO hr1;go_wp2_with fail
  go_ret
  exact⟨⟨ec,ay.out,rfl⟩,hO2.out⟩
 |some p=>
  obtain⟨x,j⟩:=p;rw[hv]at cN;simp only[Option.map_some,Option.bind_some];replace cN:=af cN;replace hF:=af hF;clear hv h hR sM hrb wm hc hB;by_cases ho:0<s.op.length
  ·rw[if_pos ho]
   have ho':(0:Int)<s.op.length:=by omega
   go_enter Tryz.func256,Tryz.ntmps256
   go_wp2_with fail
   refine cN.out.mono ?_;rintro e w1 ⟨rfl,h1,hO⟩;have hF1:=hF.out.at' h1 hO;obtain⟨⟨g0,g1,g2,g3⟩,hz,k2,k3,hz2⟩:=hF1.cells;have z3:=hz 3;have hF2:=hF1.setText x;obtain⟨_,_,m2,m3,_⟩:=hF2.cells;replace hF2:=af hF2;clear hF1 h1 hO hz hz2 hF;go_wp2_with fail
   go_ret
   exact⟨rfl,_,_,hF2.out.rd⟩
  ·rw[if_neg ho]
   have ho': ¬(0:Int)<s.op.length:=by omega
   by_cases hfu:256<=s.out.length
   ·rw[if_pos hfu]
    have H8:(256:Int)<=s.out.length:=by omega
    go_enter Tryz.func256,Tryz.ntmps256
    go_wp2_with fail
    refine cN.out.mono ?_;rintro e w1 ⟨rfl,h1,hO⟩;have hF1:=hF.out.at' h1 hO;obtain⟨⟨g0,g1,g2,g3⟩,hz,k2,k3,hz2⟩:=hF1.cells;have z3:=hz 3;have hF2:=hF1.setText x;obtain⟨_,_,m2,m3,_⟩:=hF2.cells;replace hF2:=af hF2;clear hF1 h1 hO hz hz2 hF;go_wp2_with fail
    go_ret
    exact⟨⟨6,by decide,rfl⟩,hF2.out.rd.own⟩
   ·rw[if_neg hfu]
    have H8: ¬(256:Int)<=s.out.length:=by omega
    go_enter Tryz.func256,Tryz.ntmps256
    go_wp2_with fail
    refine cN.out.mono ?_;rintro e w1 ⟨rfl,h1,hO⟩;have hF1:=hF.out.at' h1 hO;obtain⟨⟨g0,g1,g2,g3⟩,hz,k2,k3,hz2⟩:=hF1.cells;have z3:=hz 3;have hF2:=hF1.setText x;obtain⟨_,_,m2,m3,_⟩:=hF2.cells;replace hF2:=af hF2;have hl1:=af (show(s.out.length+[(bG.mk num 2 0 x)].length)*40<=140737488355328 by simp only[List.length_singleton];omega);have hl2:=af (show s.out.length+[(bG.mk num 2 0 x)].length<=maxLen by unfold maxLen;simp only[List.length_singleton];omega);have hl3:=af (show(s.out++[(bG.mk num 2 0 x)]).length=s.out.length+1 by simp);clear hF1 h1 hO hz hz2 hF;go_wp2_with fail
    clear g0 g1 g2 g3 k2 k3 m2 m3 z3;generalize(w1.setCell ⟨w.heap.size,3,none⟩ (.string x))=w2 at*;have hD:=hF2.out.nil' ((ai.refl [] w2).drew);obtain⟨⟨p0,p1,p2,p3⟩,_,p4,p5,_⟩:=hD.cells;have hA:=hF2.out.nil' (((ai.refl [] w2).alloc (.cells (fL (bG.mk num 2 0 x)).toArray 100)).drew);obtain⟨⟨q0,q1,q2,q3⟩,_,q4,q5,_⟩:=hA.cells;have mX:=af ((aA.new (enc:=fL) (T:=100) w2 (bG.mk num 2 0 x) 1).nil' ((ai.refl [] _).drew));change Hid _ at hA;simp only[fL]at hA q0 q1 q2 q3 q4 q5 mX;clear hD;go_region_law((go_loud(refine fu rfl (.tmp 62) (.tmp 64) (by rfl) zL hA.out.rd.own (by rfl) hA.out.rd.out (by rfl) mX.out hl1.out hl2.out ?_);intro va w5 hS5 hqq hg5 gW;obtain⟨a5,c5,rfl⟩:=hS5.sl;rw[hl3.out]at hS5 hg5⊢;obtain⟨⟨kC,f5⟩,om⟩:=hA.out.rd.took hS5 gW hg5;replace om:=af om;clear hS5 hg5 gW hqq))
    all_goals
     go_wp2_with fail
     go_ret
     exact⟨rfl,_,_,om.out⟩
theorem FX(W0 w:World)(r:Nat)(v fM aT:Value)(B:List Int)(s:tu)(num K:Int)(h:sK W0 w r v fM aT s)(h0:K≠0)(h1:K≠1)(h2:K≠2)(h5:K≠5):
  Calls Tryz.prog 256 #[.pointer (some ⟨r,0,none⟩),.int .i64 num,.int .i64 K] w (bS (iK B s num K) W0 r v):=by
 have hO:=af (h.field num K).rd.own;have hv:si B s.at' num K=none:=by unfold si;rw[if_neg h0,if_neg h2,if_neg h1,if_neg h5]
 have e0:(K==0)=false:=by simpa using h0
 have e1:(K==1)=false:=by simpa using h1
 have e2:(K==2)=false:=by simpa using h2
 have e5:(K==5)=false:=by simpa using h5
 unfold bS iK;rw[hv];simp only[Option.bind_none];clear h h0 h1 h2 h5 hv;go_enter Tryz.func256,Tryz.ntmps256
 go_wp2_with fail
 go_ret
 exact⟨⟨11,by decide,rfl⟩,hO.out⟩
theorem FU(W0 w:World)(r:Nat)(v fM aT:Value)(B:List Int)(s:tu)(num:Int)(h:sK W0 w r v fM aT s)(hR:aA bL W0 v B)(hrb: ∀b,v.ownBlock=some b->b<W0.heap.size)(hc:eB v)(hB:ol B)(hl:B.length<=4096)(hi:s.at'<=B.length)(ul:s.out.length<=256):
  Calls Tryz.prog 256 #[.pointer (some ⟨r,0,none⟩),.int .i64 num,.int .i64 1] w (bS (iK B s num 1) W0 r v):=by
 have hF:=h.field num 1;have sM:=hR.nil' hF.rd.own;have wm: ∀b,v.ownBlock=some b->b≠r:=fun b hb=>by have:=hrb b hb;have:=h.base;omega
 obtain⟨oa,oc,rfl⟩:=h.op.sl;obtain⟨ta,tc,rfl⟩:=h.out.sl;have cN:=Kl r v _ _ B s.at' _ hF.rd.blk sM hc hB hl hi;unfold nH at cN;unfold bS iK;rw[VG];have hnr:=hF.nr;cases hv:uO 8 B s.at' with
 |none=>
  rw[hv]at cN;simp only[Option.map_none,Option.bind_none];have gV:=af hF.rd.own;have hb0:=af hF.rd.base;have hrow:=af hF.row;have WK:=af h.own.size;replace cN:=af cN;clear hv h hF hR sM hrb wm hc hB;go_enter Tryz.func256,Tryz.ntmps256
  go_wp2_with fail
  refine cN.out.mono ?_;rintro e w1 ⟨⟨ec,ay,rfl⟩,hO⟩;have h1:(ec !=0)=true:=by simpa using ay
  have aH:=af (gV.out.trans' hO (fun x hx=>.inr (by simp at hx;try(subst hx;exact hb0.out))));have hr1:=hO.heap hrow.out (by simp[hnr]);have g2:=cell_of_row _ w.heap.size 2 _ _ _ hr1;have z2:=frozen_of_row _ w.heap.size 2 _ _ hr1;have hO2:=af (aH.out.setCell (p:=⟨w.heap.size,2,none⟩) (.inr (by have:=gV.out.size;simp at this⊢;exact WK.out)) (.int .u64 0));change Hid _ at ay;clear hO hr1;go_wp2_with fail
  go_ret
  exact⟨⟨ec,ay.out,rfl⟩,hO2.out⟩
 |some p=>
  obtain⟨x,j⟩:=p;rw[hv]at cN;simp only[Option.map_some,Option.bind_some];replace cN:=af cN;replace hF:=af hF;clear hv h hR sM hrb wm hc hB;by_cases ho:0<s.op.length
  ·rw[if_pos ho]
   have ho':(0:Int)<s.op.length:=by omega
   go_enter Tryz.func256,Tryz.ntmps256
   go_wp2_with fail
   refine cN.out.mono ?_;rintro e w1 ⟨rfl,h1,hO⟩;have hF1:=hF.out.at' h1 hO;obtain⟨⟨g0,g1,g2,g3⟩,hz,k2,k3,hz2⟩:=hF1.cells;have z2:=hz 2;have hF2:=hF1.setVal x;obtain⟨_,_,m2,m3,_⟩:=hF2.cells;replace hF2:=af hF2;clear hF1 h1 hO hz hz2 hF;go_wp2_with fail
   go_ret
   exact⟨rfl,_,_,hF2.out.rd⟩
  ·rw[if_neg ho]
   have ho': ¬(0:Int)<s.op.length:=by omega
   by_cases hfu:256<=s.out.length
   ·rw[if_pos hfu]
    have H8:(256:Int)<=s.out.length:=by omega
    go_enter Tryz.func256,Tryz.ntmps256
    go_wp2_with fail
    refine cN.out.mono ?_;rintro e w1 ⟨rfl,h1,hO⟩;have hF1:=hF.out.at' h1 hO;obtain⟨⟨g0,g1,g2,g3⟩,hz,k2,k3,hz2⟩:=hF1.cells;have z2:=hz 2;have hF2:=hF1.setVal x;obtain⟨_,_,m2,m3,_⟩:=hF2.cells;replace hF2:=af hF2;clear hF1 h1 hO hz hz2 hF;go_wp2_with fail
    go_ret
    exact⟨⟨6,by decide,rfl⟩,hF2.out.rd.own⟩
   ·rw[if_neg hfu]
    have H8: ¬(256:Int)<=s.out.length:=by omega
    go_enter Tryz.func256,Tryz.ntmps256
    go_wp2_with fail
    refine cN.out.mono ?_;rintro e w1 ⟨rfl,h1,hO⟩;have hF1:=hF.out.at' h1 hO;obtain⟨⟨g0,g1,g2,g3⟩,hz,k2,k3,hz2⟩:=hF1.cells;have z2:=hz 2;have hF2:=hF1.setVal x;obtain⟨_,_,m2,m3,_⟩:=hF2.cells;replace hF2:=af hF2;have hl1:=af (show(s.out.length+[(bG.mk num 1 x ⟨#[]⟩)].length)*40<=140737488355328 by simp only[List.length_singleton];omega);have hl2:=af (show s.out.length+[(bG.mk num 1 x ⟨#[]⟩)].length<=maxLen by unfold maxLen;simp only[List.length_singleton];omega);have hl3:=af (show(s.out++[(bG.mk num 1 x ⟨#[]⟩)]).length=s.out.length+1 by simp);clear hF1 h1 hO hz hz2 hF;go_wp2_with fail
    clear g0 g1 g2 g3 k2 k3 m2 m3 z2;generalize(w1.setCell ⟨w.heap.size,2,none⟩ (.int .u64 x))=w2 at*;have hD:=hF2.out.nil' ((ai.refl [] w2).drew);obtain⟨⟨p0,p1,p2,p3⟩,_,p4,p5,_⟩:=hD.cells;have hA:=hF2.out.nil' (((ai.refl [] w2).alloc (.cells (fL (bG.mk num 1 x ⟨#[]⟩)).toArray 100)).drew);obtain⟨⟨q0,q1,q2,q3⟩,_,q4,q5,_⟩:=hA.cells;have mX:=af ((aA.new (enc:=fL) (T:=100) w2 (bG.mk num 1 x ⟨#[]⟩) 1).nil' ((ai.refl [] _).drew));change Hid _ at hA;simp only[fL]at hA q0 q1 q2 q3 q4 q5 mX;clear hD;go_region_law((go_loud(refine fu rfl (.tmp 62) (.tmp 64) (by rfl) zL hA.out.rd.own (by rfl) hA.out.rd.out (by rfl) mX.out hl1.out hl2.out ?_);intro va w5 hS5 hqq hg5 gW;obtain⟨a5,c5,rfl⟩:=hS5.sl;rw[hl3.out]at hS5 hg5⊢;obtain⟨⟨kC,f5⟩,om⟩:=hA.out.rd.took hS5 gW hg5;replace om:=af om;clear hS5 hg5 gW hqq))
    all_goals
     go_wp2_with fail
     go_ret
     exact⟨rfl,_,_,om.out⟩
theorem FV(W0 w:World)(r:Nat)(v fM aT:Value)(B:List Int)(s:tu)(num:Int)(h:sK W0 w r v fM aT s)(hR:aA bL W0 v B)(hrb: ∀b,v.ownBlock=some b->b<W0.heap.size)(hc:eB v)(hB:ol B)(hl:B.length<=4096)(hi:s.at'<=B.length)(ul:s.out.length<=256):
  Calls Tryz.prog 256 #[.pointer (some ⟨r,0,none⟩),.int .i64 num,.int .i64 5] w (bS (iK B s num 5) W0 r v):=by
 have hF:=h.field num 5;have sM:=hR.nil' hF.rd.own;have wm: ∀b,v.ownBlock=some b->b≠r:=fun b hb=>by have:=hrb b hb;have:=h.base;omega
 obtain⟨oa,oc,rfl⟩:=h.op.sl;obtain⟨ta,tc,rfl⟩:=h.out.sl;have cN:=Km r v _ _ B s.at' _ hF.rd.blk sM hc hB hl hi;unfold nH at cN;unfold bS iK;rw[VH];have hnr:=hF.nr;cases hv:uO 4 B s.at' with
 |none=>
  rw[hv]at cN;simp only[Option.map_none,Option.bind_none];have gV:=af hF.rd.own;have hb0:=af hF.rd.base;have hrow:=af hF.row;have WK:=af h.own.size;replace cN:=af cN;clear hv h hF hR sM hrb wm hc hB;go_enter Tryz.func256,Tryz.ntmps256
  go_wp2_with fail
  refine cN.out.mono ?_;rintro e w1 ⟨⟨ec,ay,rfl⟩,hO⟩;have h1:(ec !=0)=true:=by simpa using ay
  have aH:=af (gV.out.trans' hO (fun x hx=>.inr (by simp at hx;try(subst hx;exact hb0.out))));have hr1:=hO.heap hrow.out (by simp[hnr]);have g2:=cell_of_row _ w.heap.size 2 _ _ _ hr1;have z2:=frozen_of_row _ w.heap.size 2 _ _ hr1;have hO2:=af (aH.out.setCell (p:=⟨w.heap.size,2,none⟩) (.inr (by have:=gV.out.size;simp at this⊢;exact WK.out)) (.int .u64 0));change Hid _ at ay;clear hO hr1;go_wp2_with fail
  go_ret
  exact⟨⟨ec,ay.out,rfl⟩,hO2.out⟩
 |some p=>
  obtain⟨x,j⟩:=p;rw[hv]at cN;simp only[Option.map_some,Option.bind_some];replace cN:=af cN;replace hF:=af hF;clear hv h hR sM hrb wm hc hB;by_cases ho:0<s.op.length
  ·rw[if_pos ho]
   have ho':(0:Int)<s.op.length:=by omega
   go_enter Tryz.func256,Tryz.ntmps256
   go_wp2_with fail
   refine cN.out.mono ?_;rintro e w1 ⟨rfl,h1,hO⟩;have hF1:=hF.out.at' h1 hO;obtain⟨⟨g0,g1,g2,g3⟩,hz,k2,k3,hz2⟩:=hF1.cells;have z2:=hz 2;have hF2:=hF1.setVal x;obtain⟨_,_,m2,m3,_⟩:=hF2.cells;replace hF2:=af hF2;clear hF1 h1 hO hz hz2 hF;go_wp2_with fail
   go_ret
   exact⟨rfl,_,_,hF2.out.rd⟩
  ·rw[if_neg ho]
   have ho': ¬(0:Int)<s.op.length:=by omega
   by_cases hfu:256<=s.out.length
   ·rw[if_pos hfu]
    have H8:(256:Int)<=s.out.length:=by omega
    go_enter Tryz.func256,Tryz.ntmps256
    go_wp2_with fail
    refine cN.out.mono ?_;rintro e w1 ⟨rfl,h1,hO⟩;have hF1:=hF.out.at' h1 hO;obtain⟨⟨g0,g1,g2,g3⟩,hz,k2,k3,hz2⟩:=hF1.cells;have z2:=hz 2;have hF2:=hF1.setVal x;obtain⟨_,_,m2,m3,_⟩:=hF2.cells;replace hF2:=af hF2;clear hF1 h1 hO hz hz2 hF;go_wp2_with fail
    go_ret
    exact⟨⟨6,by decide,rfl⟩,hF2.out.rd.own⟩
   ·rw[if_neg hfu]
    have H8: ¬(256:Int)<=s.out.length:=by omega
    go_enter Tryz.func256,Tryz.ntmps256
    go_wp2_with fail
    refine cN.out.mono ?_;rintro e w1 ⟨rfl,h1,hO⟩;have hF1:=hF.out.at' h1 hO;obtain⟨⟨g0,g1,g2,g3⟩,hz,k2,k3,hz2⟩:=hF1.cells;have z2:=hz 2;have hF2:=hF1.setVal x;obtain⟨_,_,m2,m3,_⟩:=hF2.cells;replace hF2:=af hF2;have hl1:=af (show(s.out.length+[(bG.mk num 5 x ⟨#[]⟩)].length)*40<=140737488355328 by simp only[List.length_singleton];omega);have hl2:=af (show s.out.length+[(bG.mk num 5 x ⟨#[]⟩)].length<=maxLen by unfold maxLen;simp only[List.length_singleton];omega);have hl3:=af (show(s.out++[(bG.mk num 5 x ⟨#[]⟩)]).length=s.out.length+1 by simp);clear hF1 h1 hO hz hz2 hF;go_wp2_with fail
    clear g0 g1 g2 g3 k2 k3 m2 m3 z2;generalize(w1.setCell ⟨w.heap.size,2,none⟩ (.int .u64 x))=w2 at*;have hD:=hF2.out.nil' ((ai.refl [] w2).drew);obtain⟨⟨p0,p1,p2,p3⟩,_,p4,p5,_⟩:=hD.cells;have hA:=hF2.out.nil' (((ai.refl [] w2).alloc (.cells (fL (bG.mk num 5 x ⟨#[]⟩)).toArray 100)).drew);obtain⟨⟨q0,q1,q2,q3⟩,_,q4,q5,_⟩:=hA.cells;have mX:=af ((aA.new (enc:=fL) (T:=100) w2 (bG.mk num 5 x ⟨#[]⟩) 1).nil' ((ai.refl [] _).drew));change Hid _ at hA;simp only[fL]at hA q0 q1 q2 q3 q4 q5 mX;clear hD;go_region_law((go_loud(refine fu rfl (.tmp 62) (.tmp 64) (by rfl) zL hA.out.rd.own (by rfl) hA.out.rd.out (by rfl) mX.out hl1.out hl2.out ?_);intro va w5 hS5 hqq hg5 gW;obtain⟨a5,c5,rfl⟩:=hS5.sl;rw[hl3.out]at hS5 hg5⊢;obtain⟨⟨kC,f5⟩,om⟩:=hA.out.rd.took hS5 gW hg5;replace om:=af om;clear hS5 hg5 gW hqq))
    all_goals
     go_wp2_with fail
     go_ret
     exact⟨rfl,_,_,om.out⟩
theorem FT(W0 w:World)(r:Nat)(v fM aT:Value)(B:List Int)(s:tu)(num:Int)(h:sK W0 w r v fM aT s)(hR:aA bL W0 v B)(hrb: ∀b,v.ownBlock=some b->b<W0.heap.size)(hc:eB v)(hB:ol B)(hl:B.length<=4096)(hi:s.at'<=B.length)(ul:s.out.length<=256):
  Calls Tryz.prog 256 #[.pointer (some ⟨r,0,none⟩),.int .i64 num,.int .i64 0] w (bS (iK B s num 0) W0 r v):=by
 have hF:=h.field num 0;have sM:=hR.nil' hF.rd.own;have wm: ∀b,v.ownBlock=some b->b≠r:=fun b hb=>by have:=hrb b hb;have:=h.base;omega
 obtain⟨oa,oc,rfl⟩:=h.op.sl;obtain⟨ta,tc,rfl⟩:=h.out.sl;have cN:=sw r v _ _ B s.at' _ hF.rd.blk sM hc hB hl hi;unfold tF at cN;unfold bS iK;rw[VF];have hnr:=hF.nr;cases hv:nD B s.at' with
 |none=>
  rw[hv]at cN;simp only[Option.map_none,Option.bind_none];have gV:=af hF.rd.own;have hb0:=af hF.rd.base;have hrow:=af hF.row;have WK:=af h.own.size;replace cN:=af cN;clear hv h hF hR sM hrb wm hc hB;go_enter Tryz.func256,Tryz.ntmps256
  go_wp2_with fail
  refine cN.out.mono ?_;rintro e w1 ⟨⟨ec,ay,rfl⟩,hO⟩;have h1:(ec !=0)=true:=by simpa using ay
  have aH:=af (gV.out.trans' hO (fun x hx=>.inr (by simp at hx;try(subst hx;exact hb0.out))));have hr1:=hO.heap hrow.out (by simp[hnr]);have g2:=cell_of_row _ w.heap.size 2 _ _ _ hr1;have z2:=frozen_of_row _ w.heap.size 2 _ _ hr1;have hO2:=af (aH.out.setCell (p:=⟨w.heap.size,2,none⟩) (.inr (by have:=gV.out.size;simp at this⊢;exact WK.out)) (.int .u64 0));change Hid _ at ay;clear hO hr1;go_wp2_with fail
  go_ret
  exact⟨⟨ec,ay.out,rfl⟩,hO2.out⟩
 |some p=>
  obtain⟨x,j⟩:=p;rw[hv]at cN;simp only[Option.map_some,Option.bind_some];replace cN:=af cN;replace hF:=af hF;clear hv h hR sM hrb wm hc hB;by_cases ho:0<s.op.length
  ·rw[if_pos ho]
   have ho':(0:Int)<s.op.length:=by omega
   go_enter Tryz.func256,Tryz.ntmps256
   go_wp2_with fail
   refine cN.out.mono ?_;rintro e w1 ⟨rfl,h1,hO⟩;have hF1:=hF.out.at' h1 hO;obtain⟨⟨g0,g1,g2,g3⟩,hz,k2,k3,hz2⟩:=hF1.cells;have z2:=hz 2;have hF2:=hF1.setVal x;obtain⟨_,_,m2,m3,_⟩:=hF2.cells;replace hF2:=af hF2;clear hF1 h1 hO hz hz2 hF;go_wp2_with fail
   go_ret
   exact⟨rfl,_,_,hF2.out.rd⟩
  ·rw[if_neg ho]
   have ho': ¬(0:Int)<s.op.length:=by omega
   by_cases hfu:256<=s.out.length
   ·rw[if_pos hfu]
    have H8:(256:Int)<=s.out.length:=by omega
    go_enter Tryz.func256,Tryz.ntmps256
    go_wp2_with fail
    refine cN.out.mono ?_;rintro e w1 ⟨rfl,h1,hO⟩;have hF1:=hF.out.at' h1 hO;obtain⟨⟨g0,g1,g2,g3⟩,hz,k2,k3,hz2⟩:=hF1.cells;have z2:=hz 2;have hF2:=hF1.setVal x;obtain⟨_,_,m2,m3,_⟩:=hF2.cells;replace hF2:=af hF2;clear hF1 h1 hO hz hz2 hF;go_wp2_with fail
    go_ret
    exact⟨⟨6,by decide,rfl⟩,hF2.out.rd.own⟩
   ·rw[if_neg hfu]
    have H8: ¬(256:Int)<=s.out.length:=by omega
    go_enter Tryz.func256,Tryz.ntmps256
    go_wp2_with fail
    refine cN.out.mono ?_;rintro e w1 ⟨rfl,h1,hO⟩;have hF1:=hF.out.at' h1 hO;obtain⟨⟨g0,g1,g2,g3⟩,hz,k2,k3,hz2⟩:=hF1.cells;have z2:=hz 2;have hF2:=hF1.setVal x;obtain⟨_,_,m2,m3,_⟩:=hF2.cells;replace hF2:=af hF2;have hl1:=af (show(s.out.length+[(bG.mk num 0 x ⟨#[]⟩)].length)*40<=140737488355328 by simp only[List.length_singleton];omega);have hl2:=af (show s.out.length+[(bG.mk num 0 x ⟨#[]⟩)].length<=maxLen by unfold maxLen;simp only[List.length_singleton];omega);have hl3:=af (show(s.out++[(bG.mk num 0 x ⟨#[]⟩)]).length=s.out.length+1 by simp);clear hF1 h1 hO hz hz2 hF;go_wp2_with fail
    clear g0 g1 g2 g3 k2 k3 m2 m3 z2;generalize(w1.setCell ⟨w.heap.size,2,none⟩ (.int .u64 x))=w2 at*;have hD:=hF2.out.nil' ((ai.refl [] w2).drew);obtain⟨⟨p0,p1,p2,p3⟩,_,p4,p5,_⟩:=hD.cells;have hA:=hF2.out.nil' (((ai.refl [] w2).alloc (.cells (fL (bG.mk num 0 x ⟨#[]⟩)).toArray 100)).drew);obtain⟨⟨q0,q1,q2,q3⟩,_,q4,q5,_⟩:=hA.cells;have mX:=af ((aA.new (enc:=fL) (T:=100) w2 (bG.mk num 0 x ⟨#[]⟩) 1).nil' ((ai.refl [] _).drew));change Hid _ at hA;simp only[fL]at hA q0 q1 q2 q3 q4 q5 mX;clear hD;go_region_law((go_loud(refine fu rfl (.tmp 62) (.tmp 64) (by rfl) zL hA.out.rd.own (by rfl) hA.out.rd.out (by rfl) mX.out hl1.out hl2.out ?_);intro va w5 hS5 hqq hg5 gW;obtain⟨a5,c5,rfl⟩:=hS5.sl;rw[hl3.out]at hS5 hg5⊢;obtain⟨⟨kC,f5⟩,om⟩:=hA.out.rd.took hS5 gW hg5;replace om:=af om;clear hS5 hg5 gW hqq))
    all_goals
     go_wp2_with fail
     go_ret
     exact⟨rfl,_,_,om.out⟩
end Go.Proofs.YtedcakchekaemaaGreatDoor
