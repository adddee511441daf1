/- Contracts of the program, part 32. -/
import Derived.Test.YtedcakchekaemaaGreatDoorMp28
import Derived.Laws.EntriesVeiled
set_option maxRecDepth 100000
set_option maxHeartbeats 16000000
set_option linter.all false
namespace Go.Proofs.YtedcakchekaemaaGreatDoor
open Go.RowKit
def gB:ByteArray:=⟨#[103]⟩
def nB:ByteArray:=⟨#[110]⟩
def iC:ByteArray:=⟨#[115,112,66,118,49,46,48,47,103,47,78,68,65,84,65,47,110]⟩
theorem JH:bQ iC=⟨3,gB,nB,⟨#[]⟩⟩:=by kernel_rfl
theorem acd:(gB.toList==[])=false:=by rw[Lib.toList_data];rfl
theorem ace:(nB.toList==[])=false:=by rw[Lib.toList_data];rfl
structure TS (w0 w:World) (p m h bb r b:Nat) (l:List ((ByteArray×ByteArray)×Value)) (asked:Int) (x:uR):Prop where
 en:aV w b x
 sp:w.heap[p]?=some (.cells #[.map (some m),aN h,aN bb,aN r,.int .i64 asked] 73 (0,0))
 nm:dI dm w m l
 ra:w.heap[r]?=some (.cells #[.int .i64 10,.slice none 0 0,.bool true] 143 (0,0))
 ne:b≠p/\b≠m/\b≠r/\p≠m/\p≠r/\m≠r
 own:ai [p,m,r] w0 w
 bf:w0.heap.size<=b
section
variable {w0 w w' : World} {p m h bb r b : Nat} {l : List ((ByteArray × ByteArray) × Value)} {asked : Int} {x y : uR}
theorem TS.nil'(H:TS w0 w p m h bb r b l asked x)(ho:ai [] w w'):TS w0 w' p m h bb r b l asked x:=
 ⟨H.en.own ho (by simp),ho.heap H.sp (by simp),H.nm.own ho (by simp),ho.heap H.ra (by simp),H.ne,H.own.trans ho.nil,H.bf⟩
theorem TS.set(H:TS w0 w p m h bb r b l asked x){S:List Nat}(ho:ai S w w')(hS: ∀z∈S,z=b\/w.heap.size<=z\/(w0.heap.size<=z/\z≠p/\z≠m/\z≠r))(he:aV w' b y):TS w0 w' p m h bb r b l asked y:=by
 obtain⟨h1,h2,h3,h4,h5,h6⟩:=H.ne;have hp:=aj H.sp;have hm:=H.nm.lt;have hr:=aj H.ra;have hno: ∀z,z<w.heap.size->z≠b->(z=p\/z=m\/z=r)->z∉S:=fun z hz hzb h7 hx=>by
  rcases hS z hx with h8|h8|h8
  ·exact hzb h8
  ·omega
  ·rcases h7 with h7|h7|h7<;>omega
 refine⟨he,ho.heap H.sp (hno _ hp (Ne.symm h1) (.inl rfl)),H.nm.own ho (hno _ hm (Ne.symm h2) (.inr (.inl rfl))),ho.heap H.ra (hno _ hr (Ne.symm h3) (.inr (.inr rfl))),H.ne,H.own.trans' ho (fun z hz=>.inr ?_),H.bf⟩;have:=H.own.size;have:=H.bf;rcases hS z hz with h8|h8|h8<;>omega
theorem WO(H:TS w0 w p m h bb r b l asked x)(hk:x.s.k=3):Calls Tryz.prog 53 #[aN p,aN b] w fun e w'=>e=.returned (.bool true)/\w=w':=by
 have:=D6 p b x w H.en;rw[hk]at this;exact this
theorem SL(H:TS w0 w p m h bb r b l asked x)(hk:x.s.k=3):Calls Tryz.prog 54 #[aN p,aN b] w fun e w'=>e=.returned (.bool true)/\TS w0 w' p m h bb r b l asked {x with vn:=x.s.n}/\ai [b] w w':=
 (yR p b x w H.en (by rw[hk];decide)).mono fun e w' ⟨h1,h2,h3⟩=>⟨h1,H.set h2 (by simp) h3,h2⟩
theorem WQ(H:TS w0 w p m h bb r b [] asked x)(hg:(x.s.g.toList==[])=false)(hn:(x.s.n.toList==[])=false):Calls Tryz.prog 55 #[aN p,aN b] w fun e w'=>e=.returned (.bool true)/\ ∃n rr a,w.heap.size<=n/\w.heap.size<=rr/\n≠rr/\ai [b,m] w w'/\
  nP w' n rr a x.s.g x.s.n false/\TS w0 w' p m h bb r b [((x.s.g,x.s.n),.pointer (some ⟨n,0,none⟩))] asked {x with vg:=x.s.g,node:=.pointer (some ⟨n,0,none⟩)}:=by
 obtain⟨h1,h2,h3,h4,h5,h6⟩:=H.ne;have hp:=aj H.sp;have hb:=aj H.en;have hm:=H.nm.lt;have hr:=aj H.ra;have hz:=H.own.size;refine(Rz p b m h bb r asked x w H.en H.sp H.nm hg hn h1 h2 h4).mono ?_;rintro e w' ⟨rfl,n,rr,a,k1,k2,k3,k4,k5,k6,k7⟩;refine⟨rfl,n,rr,a,k1,k2,k3,k7,k5,k4,k7.heap H.sp (by simp;omega),k6,k7.heap H.ra (by simp;omega),H.ne,H.own.trans' k7 (fun z hz=>?_),H.bf⟩;have:=H.bf;simp at hz;rcases hz with rfl|rfl
 ·exact .inr H.bf
 ·exact .inl (by simp)
theorem WR{n rr a:Nat}(H:TS w0 w p m h bb r b l asked x)(ht:x.text=⟨#[]⟩)(hk:x.s.k=3)(hn:x.node=.pointer (some ⟨n,0,none⟩)){g nm:ByteArray}(hF:nP w n rr a g nm false)(hnr:n≠rr)(hbn:b<n)(hbr:b<rr)(hpn:p<n)(hmn:m<n)(hrn:r<n)(hn0:w0.heap.size<=n):
  Calls Tryz.prog 56 #[aN p,aN b] w fun e w'=>e=.returned (.bool true)/\nP w' n rr a g nm true/\TS w0 w' p m h bb r b l asked {x with code:=5}/\ai [b,n] w w':=
 (JG p b n rr a g nm false x w H.en ht hk hn hF hnr (by omega) (by omega)).mono fun e w' ⟨h1,h2,h3,h4⟩=>⟨h1,h4,H.set h2 (by simp;omega) h3,h2⟩
theorem FR(H:TS w0 w p m h bb r b l asked x)(h1:x.code≠1):Calls Tryz.prog 57 #[aN p,aN b] w fun e w'=>e=.returned (.bool true)/\w=w':=vB p b x w H.en h1
theorem Z4{n rr a:Nat}{g nm:ByteArray}{pe:Bool}(H:TS w0 w p m h bb r b l 0 x)(hF:nP w n rr a g nm pe)(hbn:b<n)(hbr:b<rr)(hpn:p<n)(hpr:p<rr)(hrn:r<n)(hrr:r<rr)(hc:x.code=5)(ha:x.at'=5)(hsg:x.s.g.size<=1048576)(hsn:x.s.n.size<=1048576):
  Calls Tryz.prog 58 #[aN p,aN b] w fun e w'=>e=.returned (.bool false)/\nP w' n rr a g nm pe/\aV w' b {x with ask:=true}/\w'.heap[p]?=some (.cells #[.map (some m),aN h,aN bb,aN r,.int .i64 1] 73 (0,0))/\dI dm w' m l/\ai [p,m,r] w0 w'/\ai [b,p,r] w w':=by
 obtain⟨h1,h2,h3,h4,h5,h6⟩:=H.ne;have hR:oz w r 10 [r] []:=⟨by simp,by simp,⟨by omega,by omega⟩,.slice none 0 0,[],⟨H.ra,⟨⟨rfl,.inl ⟨rfl,rfl⟩⟩,by simp,by simp⟩,by simp[Value.ownBlock],by simp⟩,List.Perm.refl _,by simp,by simp[Value.ownBlock],by simp⟩;refine(Vt p b r m h bb 10 0 [r] [] x w H.en hR H.sp (by rw[hc];decide) (by decide) (by decide) (Ne.symm h1) (by simpa using h5) (by simpa using h3) hsg hsn (by rw[ha];rfl)).mono ?_;rintro e w' ⟨rfl,k1,k2,k3⟩;refine⟨rfl,⟨k1.heap hF.1 (by simp;omega),k1.heap hF.2 (by simp;omega)⟩,k2,k3,H.nm.own k1 (by simp;omega),H.own.trans' k1 (fun z hz=>?_),k1⟩;simp at hz;rcases hz with rfl|rfl|rfl
 ·exact .inr H.bf
 ·exact .inl (by simp)
 ·exact .inl (by simp)
end
theorem JI{p m h hm bb r:Nat}(w:World)(H:SN w p m h hm bb r)(hT:ko w)(hW:dL w)(hC:qV w):
  Calls Tryz.prog 9 #[aN p,.int .i64 5,.agg #[.string iC,.string ⟨#[]⟩,.int .i64 0,.bool false]] w fun e w'=>e=.returned (.agg #[.int .i64 5,.string gB,.string nB,.bool true])/\
   ∃n rr a,nP w' n rr a gB nB true/\w'.heap[p]?=some (.cells #[.map (some m),aN h,aN bb,aN r,.int .i64 1] 73 (0,0))/\dI dm w' m [((gB,nB),.pointer (some ⟨n,0,none⟩))]/\ai [p,m,r] w w':=by
 have hpm:p≠m:=fun e=>by
  obtain⟨es,clock,hb,_⟩:=H.nm;rw[<-e,H.sp]at hb;cases hb
 have hpr:p≠r:=fun e=>by
  have:=H.ra;rw[<-e,H.sp]at this;simp at this
 have hmr:m≠r:=fun e=>by
  obtain⟨es,clock,hb,_⟩:=H.nm;rw[e,H.ra]at hb;cases hb
 have hpl:=aj H.sp;have hml:=H.nm.lt;have hrl:=aj H.ra;have cO:=af fun W (h1:ko W) (h2:dL W) (h3:qV W)=>yO iC W (by decide) h2 h1 h3
 have hA:=(((ai.refl [] w).alloc (.cells #[.string iC,.string ⟨#[]⟩,.int .i64 0,.bool false] 29)).alloc (.cells #[.int .i64 0,.string ⟨#[]⟩,.string ⟨#[]⟩,.bool false] 31));have cN:=oq p m _ (H.own hA).c0.1;replace cN:=af cN;go_enter Tryz.func9,Tryz.ntmps9
 go_wp2_with(go_at_call 22;((with_reducible refine cN.out.mono ?_);rintro e w2 ⟨rfl,rfl⟩))
 clear cN;have hq0:((w.alloc (.cells #[.string iC,.string ⟨#[]⟩,.int .i64 0,.bool false] 29)).alloc (.cells #[.int .i64 0,.string ⟨#[]⟩,.string ⟨#[]⟩,.bool false] 31)).heap[w.heap.size]?=some (.cells #[.string iC,.string ⟨#[]⟩,.int .i64 0,.bool false] 29 (0,0)):=by
  rw[Below.heap_alloc _ _ _ (by simp)];exact heap_alloc_new _ _
 have hq1:((w.alloc (.cells #[.string iC,.string ⟨#[]⟩,.int .i64 0,.bool false] 29)).alloc (.cells #[.int .i64 0,.string ⟨#[]⟩,.string ⟨#[]⟩,.bool false] 31)).heap[w.heap.size+1]?=some (.cells #[.int .i64 0,.string ⟨#[]⟩,.string ⟨#[]⟩,.bool false] 31 (0,0)):=heap_alloc2_new _ _ _;generalize((w.alloc (.cells #[.string iC,.string ⟨#[]⟩,.int .i64 0,.bool false] 29)).alloc (.cells #[.int .i64 0,.string ⟨#[]⟩,.string ⟨#[]⟩,.bool false] 31))=W0 at*;obtain⟨q0,UX⟩: ∃q,q=w.heap.size:=⟨_,rfl⟩;obtain⟨q1,UY⟩: ∃q,q=w.heap.size+1:=⟨_,rfl⟩;rw[<-UY]at hq1⊢;rw[<-UX]at hq0⊢;have ajx:=aj hq0;have Yw:=aj hq1;have ajy:q0≠q1:=by omega
 have ajz:w.heap.size<=q0:=by omega
 have Kb:w.heap.size<=q1:=by omega
 clear UX UY;obtain⟨s0,s1,s2,s3⟩:=fI hq0;have cO1:=af (cO.out W0.drew (hT.own (S:=[]) hA.drew (by simp)) (hW.own hA.drew) (hC.own hA.drew));rw[show bQ iC=_ from JH]at cO1;unfold vz at cO1;have UB:Hid (∀W,ai [] W0.drew W->W.cell? ⟨q0,0,none⟩=some (.string iC)/\W.cell? ⟨q0,1,none⟩=some (.string ⟨#[]⟩)/\W.cell? ⟨q0,2,none⟩=some (.int .i64 0)/\W.cell? ⟨q0,3,none⟩=some (.bool false)):=af fun W ho=>
  fI ((ai.refl [] W0).drew.trans ho |>.heap hq0 (by simp))
 have kW:=UB.out W0.drew (ai.refl _ _);go_region_held3(fun W=>W.cell? ⟨q0,0,none⟩=some (.string iC)/\W.cell? ⟨q0,1,none⟩=some (.string ⟨#[]⟩)/\W.cell? ⟨q0,2,none⟩=some (.int .i64 0)/\W.cell? ⟨q0,3,none⟩=some (.bool false))
  (first|with_reducible exact kA|with_reducible exact kW|go_keep)
  ((first|(go_at_call 23;(with_reducible refine cO1.out.mono ?_);rintro e w3 ⟨rfl,hO3⟩;have kA:=UB.out _ hO3)))
 all_goals
  have Kc:ai [] W0 w3:=(ai.refl [] W0).drew.trans hO3;have Zd:TS w (w3.alloc (.cells #[.int .i64 5,.string iC,.string ⟨#[]⟩,.int .i64 0,.bool false,.int .i64 3,.string gB,.string nB,.string ⟨#[]⟩,.pointer none,.int .i64 0,.string ⟨#[]⟩,.string ⟨#[]⟩,.bool false] 80)) p m h bb r w3.heap.size [] 0 ⟨5,iC,⟨#[]⟩,0,false,⟨3,gB,nB,⟨#[]⟩⟩,.pointer none,0,⟨#[]⟩,⟨#[]⟩,false⟩:=by
   have hw3:=hA.trans Kc;have hO4:=hw3.alloc (.cells #[.int .i64 5,.string iC,.string ⟨#[]⟩,.int .i64 0,.bool false,.int .i64 3,.string gB,.string nB,.string ⟨#[]⟩,.pointer none,.int .i64 0,.string ⟨#[]⟩,.string ⟨#[]⟩,.bool false] 80);have hz:=hw3.size;exact⟨heap_alloc_new _ _,hO4.heap H.sp (by simp),H.nm.own hO4 (by simp),hO4.heap H.ra (by simp),⟨by omega,by omega,by omega,hpm,hpr,hmr⟩,hO4.nil,hz⟩
  have hV3:=(((ai.refl [] W0).drew.trans hO3).alloc (.cells #[.int .i64 5,.string iC,.string ⟨#[]⟩,.int .i64 0,.bool false,.int .i64 3,.string gB,.string nB,.string ⟨#[]⟩,.pointer none,.int .i64 0,.string ⟨#[]⟩,.string ⟨#[]⟩,.bool false] 80)).heap hq1 (by simp);clear kA kW UB cO1 hq0 hq1 s0 s1 s2 s3;have adC:q1<w3.heap.size:=Nat.lt_of_lt_of_le Yw Kc.size;generalize w3.alloc (.cells #[.int .i64 5,.string iC,.string ⟨#[]⟩,.int .i64 0,.bool false,.int .i64 3,.string gB,.string nB,.string ⟨#[]⟩,.pointer none,.int .i64 0,.string ⟨#[]⟩,.string ⟨#[]⟩,.bool false] 80)=W4 at*;generalize w3.heap.size=b at*;change Hid _ at hV3;replace Zd:=af Zd;go_wp2_with go_in
  have hSt:(W4.alloc (.cells #[.func (.func 53) #[aN p] #[],.func (.func 54) #[aN p] #[],.func (.func 55) #[aN p] #[],.func (.func 56) #[aN p] #[],.func (.func 57) #[aN p] #[],.func (.func 58) #[aN p] #[]] 85)).heap[W4.heap.size]?=some (.cells #[.func (.func 53) #[aN p] #[],.func (.func 54) #[aN p] #[],.func (.func 55) #[aN p] #[],.func (.func 56) #[aN p] #[],.func (.func 57) #[aN p] #[],.func (.func 58) #[aN p] #[]] 85 (0,0)):=heap_alloc_new _ _;have OQ:=af (Zd.out.nil' ((ai.refl [] W4).alloc (.cells #[.func (.func 53) #[aN p] #[],.func (.func 54) #[aN p] #[],.func (.func 55) #[aN p] #[],.func (.func 56) #[aN p] #[],.func (.func 57) #[aN p] #[],.func (.func 58) #[aN p] #[]] 85)));have Yi:=af (((ai.refl [] W4).alloc (.cells #[.func (.func 53) #[aN p] #[],.func (.func 54) #[aN p] #[],.func (.func 55) #[aN p] #[],.func (.func 56) #[aN p] #[],.func (.func 57) #[aN p] #[],.func (.func 58) #[aN p] #[]] 85)).heap hV3.out (by simp));have adD:b<W4.heap.size:=aj Zd.out.en;have adE:q1<W4.heap.size:=aj hV3.out;have ajA:p<W4.heap.size:=aj Zd.out.sp;have ajB:m<W4.heap.size:=Zd.out.nm.lt;have ajC:r<W4.heap.size:=aj Zd.out.ra;clear Zd hV3;generalize(W4.alloc (.cells #[.func (.func 53) #[aN p] #[],.func (.func 54) #[aN p] #[],.func (.func 55) #[aN p] #[],.func (.func 56) #[aN p] #[],.func (.func 57) #[aN p] #[],.func (.func 58) #[aN p] #[]] 85))=W5 at*;generalize W4.heap.size=st at*;refine wp_loop_rounds 6 ?_;rw[rounds_succ];have c0:W5.cell? ⟨st,0,none⟩=some (.func (.func 53) #[aN p] #[]):=cell_of_row _ st 0 _ _ _ hSt;go_wp2_with fail
  refine(WO (OQ.out.nil' ((ai.refl [] W5).alloc _)) rfl).mono ?_;rintro e w6 ⟨rfl,rfl⟩;have bI:=(ai.refl [] W5).alloc (.cells #[.func (.func 53) #[aN p] #[]] 85);have hT6:=af (OQ.out.nil' bI);have hS6:=bI.heap hSt (by simp);have hV6:=af (bI.heap Yi.out (by simp));clear c0 hSt OQ Yi bI;generalize W5.alloc (.cells #[.func (.func 53) #[aN p] #[]] 85)=W6 at*;go_wp2_with fail
  rw[rounds_succ];have c1:W6.cell? ⟨st,1,none⟩=some (.func (.func 54) #[aN p] #[]):=cell_of_row _ st 1 _ _ _ hS6;go_wp2_with fail
  refine(SL (hT6.out.nil' ((ai.refl [] W6).alloc _)) rfl).mono ?_;rintro e W7 ⟨rfl,hT7,eU⟩;have bI:=((ai.refl [] W6).alloc (.cells #[.func (.func 54) #[aN p] #[]] 85)).nil.trans eU;have Po:=bI.heap hS6 (by simp;omega);have hV7:=af (bI.heap hV6.out (by simp;omega));replace hT7:=af hT7;clear c1 hS6 hT6 hV6 bI eU;go_wp2_with fail
  rw[rounds_succ];have c2:W7.cell? ⟨st,2,none⟩=some (.func (.func 55) #[aN p] #[]):=cell_of_row _ st 2 _ _ _ Po;go_wp2_with fail
  refine(WQ (hT7.out.nil' ((ai.refl [] W7).alloc _)) acd ace).mono ?_;rintro e W8 ⟨rfl,n,rr,a,hn8,hr8,hnr,gV,Yb,Ze⟩;have eU:=((ai.refl [] W7).alloc (.cells #[.func (.func 55) #[aN p] #[]] 85)).nil.trans gV;have OH:=eU.heap Po (by simp;omega);have hV8:=af (eU.heap hV7.out (by simp;omega));have ags:=aj Po;have ajD:st<n/\st<rr:=by simp at hn8 hr8;omega
  replace Ze:=af Ze;replace Yb:=af Yb;clear c2 Po hT7 hV7 eU gV hn8 hr8 ags;go_wp2_with fail
  rw[rounds_succ];have c3:W8.cell? ⟨st,3,none⟩=some (.func (.func 56) #[aN p] #[]):=cell_of_row _ st 3 _ _ _ OH;have hw8:=Ze.out.own.size;have agt:w.heap.size<=n:=by have:=Ze.out.bf;omega
  go_wp2_with fail
  refine(WR (Ze.out.nil' ((ai.refl [] W8).alloc _)) rfl rfl rfl (Yb.out.own ((ai.refl [] W8).alloc _)) hnr (by omega) (by omega) (by omega) (by omega) (by omega) agt).mono ?_;rintro e W9 ⟨rfl,hF9,hT9,mU⟩;have gV:=((ai.refl [] W8).alloc (.cells #[.func (.func 56) #[aN p] #[]] 85)).nil.trans mU;have yB:=gV.heap OH (by simp;omega);have hV9:=af (gV.heap hV8.out (by simp;omega));replace hT9:=af hT9;replace hF9:=af hF9;clear c3 OH Ze hV8 gV mU Yb hw8;go_wp2_with fail
  rw[rounds_succ];have c4:W9.cell? ⟨st,4,none⟩=some (.func (.func 57) #[aN p] #[]):=cell_of_row _ st 4 _ _ _ yB;go_wp2_with fail
  refine(FR (hT9.out.nil' ((ai.refl [] W9).alloc _)) (show(5:Int)≠1 by decide)).mono ?_;rintro e Y8 ⟨rfl,rfl⟩;have pz:=(ai.refl [] W9).alloc (.cells #[.func (.func 57) #[aN p] #[]] 85);have adL:=af (hT9.out.nil' pz);have Dr:=pz.heap yB (by simp);have adM:=af (pz.heap hV9.out (by simp));have adN:=af (hF9.out.own pz);clear c4 yB hT9 hV9 pz hF9;generalize W9.alloc (.cells #[.func (.func 57) #[aN p] #[]] 85)=Zc at*;go_wp2_with fail
  rw[rounds_succ];have c5:Zc.cell? ⟨st,5,none⟩=some (.func (.func 58) #[aN p] #[]):=cell_of_row _ st 5 _ _ _ Dr;go_wp2_with fail
  refine(Z4 (adL.out.nil' ((ai.refl [] Zc).alloc _)) (adN.out.own ((ai.refl [] Zc).alloc _)) (by omega) (by omega) (by omega) (by omega) (by omega) (by omega) rfl rfl (show gB.size<=1048576 by decide) (show nB.size<=1048576 by decide)).mono ?_;rintro e W11 ⟨rfl,adO,Yz,agu,agv,Gu,OJ⟩;have pz:=((ai.refl [] Zc).alloc (.cells #[.func (.func 58) #[aN p] #[]] 85)).nil.trans OJ;have abd:=pz.heap adM.out (by simp;omega);obtain⟨e0,e1,e2,e3,e4,e5,e6,e7,e8,e9,e10,e11,e12,e13⟩:=bK Yz;obtain⟨v0,v1,v2,v3⟩:=fI abd;obtain⟨z0,z1,z2,z3,_⟩:=YK abd;have hset:=BZ abd (.int .i64 5) (.string gB) (.string nB) (.bool true);have jo:ai [q1] W11 ((((W11.setCell ⟨q1,0,none⟩ (.int .i64 5)).setCell ⟨q1,1,none⟩ (.string gB)).setCell ⟨q1,2,none⟩ (.string nB)).setCell ⟨q1,3,none⟩ (.bool true)):=
   ((((ai.refl [q1] W11).setCell (.inl (by simp)) _).setCell (.inl (by simp)) _).setCell (.inl (by simp)) _).setCell (.inl (by simp)) _
  clear e0 e1 e2 e3 e4 e5 e6 e7 e8 e9 c5 Dr adL adM adN pz OJ;go_wp2_with fail
  generalize((((W11.setCell ⟨q1,0,none⟩ (.int .i64 5)).setCell ⟨q1,1,none⟩ (.string gB)).setCell ⟨q1,2,none⟩ (.string nB)).setCell ⟨q1,3,none⟩ (.bool true))=W12 at*;obtain⟨f0,f1,f2,f3⟩:=fI hset;refine bodyPost_ret (v:=.agg #[.int .i64 5,.string gB,.string nB,.bool true]) (by simp[results,Tryz.results9,go_sem,f0,f1,f2,f3];try rfl) rfl
   ⟨rfl,n,rr,a,⟨jo.heap adO.1 (by simp;omega),jo.heap adO.2 (by simp;omega)⟩,jo.heap agu (by simp;omega),agv.own jo (by simp;omega),Gu.trans' jo (fun z hz=>.inr (by simp at hz;omega))⟩
end Go.Proofs.YtedcakchekaemaaGreatDoor
