import Derived.Test.YtedcakchekaemaaGreatDoorCards
import Derived.Test.YtedcakchekaemaaGreatDoorTie
import Derived.PinnedBridge
import Derived.Lib.LaidU8T
import Derived.Deep.DeepWitnessRowRef
import Derived.ProofKit
import Derived.Test.YtedcakchekaemaaGreatDoorMn38
import Derived.Test.YtedcakchekaemaaGreatDoorMn37
import Derived.Test.YtedcakchekaemaaGreatDoorMn36
set_option maxRecDepth 100000
set_option maxHeartbeats 16000000
set_option linter.all false
namespace Go.Proofs.YtedcakchekaemaaGreatDoor
open Go.RowKit Go.Lib
def qI{H:Type}(ss:List ByteArray):DataW H:=.agg (ss.map fun s=>.lit (.string s.data.toList))
theorem yN{H:Type}{enc:TypeId×Value->H}{P:Program}{w:World}{base:Nat}{sp:Nat->Bool}{held:Bool}{fuel:Nat}{t e:TypeId}{n:Nat}{cs:List Value}{ss:List ByteArray}{p:List MemPlace}
  (ht:P.underlying t=some (.array n e))(he:P.underlying e=some .string)(hce:P.cellsOf e=1)(hct:P.cellsOf t=n)
  (h:DataW.trod enc P w base sp held fuel t cs=some (qI ss,p)):cs=ss.map Value.string:=by
 cases fuel with
 |zero=>simp[DataW.trod]at h
 |succ fuel=>
  simp only[DataW.trod,ht,hce,hct,Nat.mul_one]at h;split at h
  ·rename_i hl
   obtain⟨xs,hm,hx⟩:=Option.map_eq_some_iff.1 h;have hxs:xs.map (·.1)=ss.map fun s=>(DataW.lit (.string s.data.toList):DataW H):=by
    have:=congrArg Prod.fst hx;simpa[qI]using this
   have hxl:xs.length=n:=by simpa using mapM_length hm
   have hzl:ss.length=n:=by
    have:=congrArg List.length hxs;simp at this;omega
   apply List.ext_getElem?;intro i;by_cases hi:i<n
   ·obtain⟨b,hb,hf⟩:=mapM_at hm i i (by simp[hi])
    obtain⟨z,hc,rfl,_⟩:=DataW.trod_string he hf;have h1:cs[i]?=some (.string z):=by
     have:=congrArg (·[0]?) hc;simpa[List.getElem?_take,List.getElem?_drop]using this
    have h2:(xs.map (·.1))[i]?=some (DataW.lit (.string z.data.toList):DataW H):=by simp[hb]
    rw[hxs]at h2;simp only[List.getElem?_map,Option.map_eq_some_iff,DataW.lit.injEq,Lit.string.injEq]at h2;obtain⟨z',hz',e⟩:=h2;have:z'=z:=ByteArray.ext (Array.ext' e);subst this;simp[h1,hz']
   ·rw[List.getElem?_eq_none (by omega),List.getElem?_eq_none (by simp;omega)]
  ·cases h
end Go.Proofs.YtedcakchekaemaaGreatDoor
namespace Go.Proofs.YtedcakchekaemaaGreatDoor
namespace Jw
theorem Wj{H:Type}(d:DataW H):1<=Rows.uptoBulk d:=by
 cases d with
 |lit l=>cases l<;>simp[Rows.uptoBulk]
 |nil=>simp[Rows.uptoBulk]
 |ptr d=>simp[Rows.uptoBulk]
 |slice elems spare=>simp[Rows.uptoBulk]
 |agg parts=>simp[Rows.uptoBulk]
 |iface t d=>simp[Rows.uptoBulk]
 |map entries=>simp[Rows.uptoBulk]
 |held h=>simp[Rows.uptoBulk]
theorem part_le{H:Type}{d:DataW H}{l:List (DataW H)}(h:d∈l):Rows.uptoBulk d<=Rows.uptoBulkAll l:=by
 induction l with
 |nil=>cases h
 |cons x r ih=>
  simp only[Rows.uptoBulkAll];cases List.mem_cons.1 h with
  |inl e=>subst e;omega
  |inr e=>have:=ih e;omega
theorem length_le{H:Type}(l:List (DataW H)):l.length<=Rows.uptoBulkAll l:=by
 induction l with
 |nil=>simp[Rows.uptoBulkAll]
 |cons x r ih=>have:=Wj x;simp only[Rows.uptoBulkAll,List.length_cons];omega
end Jw
end Go.Proofs.YtedcakchekaemaaGreatDoor
namespace Go.Proofs.YtedcakchekaemaaGreatDoor
open Go.RowKit Go.ChangeShapes Go.WideShapes
def YF{α:Type}(cells:α->List Value)(sz:Nat)(w:World)(a:Option Addr)(len:Nat)(ms:Nat->α):Prop:=
 len<=maxLen/\(0<len-> ∃b o,a=some ⟨b,o,none⟩/\b<w.heap.size/\ ∀i,i<len-> ∀j v,(cells (ms i))[j]?=some v->w.cell? ⟨b,o+i*sz+j,none⟩=some v)
section
variable {H : Type} {enc : TypeId × Value → H} {P : Program} {w : World} {base : Nat} {spare : Nat → Bool} {held : Bool}
theorem o5{g:TypeId->Option (List CK)}{n:Nat}{cs:List Value}{B:Nat}
  (hg: ∀t ks cs' x,g t=some ks->DataW.trod enc P w base spare held n t cs'=some x-> ∀(i:Nat) (s:ByteArray),cs'[i]?=some (.string s)->s.size<=Rows.uptoBulk x.1):
  ∀(fs:List Field) (off:Nat) (ks:List CK),gD P g off fs=some ks->
   (∀f∈fs,∃x,DataW.trod enc P w base spare held n f.type ((cs.drop f.offset).take (P.cellsOf f.type))=some x/\Rows.uptoBulk x.1<=B)->
   ∀(i:Nat) (s:ByteArray),i<ks.length->cs[off+i]?=some (.string s)->s.size<=B
 | [],off,ks,h,_,i,s,hi,_=>by simp[gD]at h;subst h;simp at hi
 |f::r,off,ks,h,hx,i,s,hi,hv=>by
  unfold gD at h;split at h
  ·rename_i l hl
   split at h
   ·rename_i hc
    obtain⟨rest,hrest,rfl⟩:=Option.map_eq_some_iff.1 h;obtain⟨x,hx0,YL⟩:=hx f (by simp);simp only[List.length_append]at hi;by_cases hil:i<l.length
    ·refine Nat.le_trans (hg _ _ _ _ hl hx0 i s ?_) YL
     rw[hc.1,hc.2,List.getElem?_take_of_lt hil,List.getElem?_drop];exact hv
    ·refine o5 hg r (off+l.length) rest hrest (fun f' hf'=>hx f' (by simp[hf'])) (i-l.length) s (by omega) ?_
     rw[show off+l.length+(i-l.length)=off+i by omega];exact hv
   ·cases h
  ·cases h
theorem Aj: ∀(n:Nat) {t:TypeId} {ks:List CK} {fuel:Nat} {cs:List Value} {x:DataW H×List MemPlace},flat P n t=some ks->DataW.trod enc P w base spare held fuel t cs=some x->
  ∀(i:Nat) (s:ByteArray),cs[i]?=some (.string s)->s.size<=Rows.uptoBulk x.1
 |0,t,ks,fuel,cs,x,h,_=>by simp[flat]at h
 |n+1,t,ks,fuel,cs,x,h,hx=>by
  have hfit:=uH (n+1) h hx;unfold flat at h;split at h
  ·rename_i hu
   obtain⟨b,rfl,_⟩:=DataW.trod_bool hu hx;intro i s hs
   match i,hs with
   |0,hs=>simp at hs
   |i+1,hs=>simp at hs
  ·rename_i k0 hu
   obtain⟨m,rfl,_,hw⟩:=DataW.trod_int hu hx;intro i s hs
   match i,hs with
   |0,hs=>simp at hs
   |i+1,hs=>simp at hs
  ·rename_i hu
   obtain⟨s0,rfl,rfl,_⟩:=DataW.trod_string hu hx;intro i s hs
   match i,hs with
   |0,hs=>
    simp at hs;subst hs;simp only[Rows.uptoBulk,Array.length_toList];exact Nat.le_succ _
   |i+1,hs=>simp at hs
  ·rename_i e0 hu
   intro i s hs;cases h;obtain⟨hl,hf⟩:=hfit
   match i,hs with
   |0,hs=>obtain⟨a,n',c,e⟩:=hf 0 _ _ rfl hs;cases e
   |i+1,hs=>rw[List.getElem?_eq_none (by rw[hl];simp)]at hs;cases hs
  ·rename_i fs hu
   split at h
   ·rename_i l hl
    split at h
    ·rename_i hc
     obtain rfl:l=ks:=Option.some.inj h;obtain⟨xs,m,_,rfl,hlen,hxs,hf⟩:=DataW.trod_struct hu hx;intro i s hs;have hil:i<l.length:=by rw[<-hc,<-hlen];exact(List.getElem?_eq_some_iff.1 hs).1
     refine o5 (n:=m) (cs:=cs) (g:=flat P n) (B:=Rows.uptoBulk (.agg (xs.map (·.1)))) (fun t ks cs' x h1 h2=>Aj n h1 h2) fs.toList 0 l hl ?_ i s hil (by rw[Nat.zero_add];exact hs);intro f hfm;obtain⟨j,hj⟩:=List.getElem?_of_mem hfm;have hj':fs[j]?=some f:=by simpa using hj
     have hjl:j<xs.length:=by
      rw[hxs];exact(Array.getElem?_eq_some_iff.1 hj').1
     refine⟨xs[j],by rw[hf j f hj',List.getElem?_eq_getElem hjl],?_⟩;have:=Jw.part_le (d:=xs[j].1) (l:=xs.map (·.1)) (List.mem_map.2 ⟨xs[j],List.getElem_mem hjl,rfl⟩);simp only[Rows.uptoBulk];omega
    ·cases h
   ·cases h
  ·cases h
end
theorem Ml{α:Type}[Inhabited α]{cells:α->List Value}{sz n:Nat}{t e:TypeId}{ks:List CK}(ht:Tryz.prog.underlying t=some (.slice e))(hk:flat Tryz.prog n e=some ks)(hc:Tryz.prog.cellsOf e=sz)(hpos:0<sz)(hfit: ∀{cs:List Value},Rn ks cs-> ∃x:α,cs=cells x)
  {H:Type}{enc:TypeId×Value->H}{w:World}{fuel:Nat}{a0:Option Addr}{yJ cap0:Nat}{x:DataW H×List MemPlace}(h:DataW.trod enc Tryz.prog w 0 (fun _=>true) true fuel t (Value.cells (.slice a0 yJ cap0)).toList=some x):
  ∃ms,YF cells sz w a0 yJ ms/\ ∀i,i<yJ-> ∀(j:Nat) (s:ByteArray),(cells (ms i))[j]?=some (.string s)->s.size<=Rows.uptoBulk x.1:=by
 rcases Deep.open_slice ht h with⟨hcs,_⟩|⟨a,len,cap,m,n',D,Pl,hcs,hb,hl,hm,hmm,rfl,hx⟩
 ·simp[Value.cells]at hcs
  obtain⟨rfl,rfl,rfl⟩:=hcs;exact⟨fun _=>default,⟨Nat.zero_le _,fun h=>by omega⟩,fun i hi=>by omega⟩
 ·simp[Value.cells]at hcs
  obtain⟨rfl,rfl,rfl⟩:=hcs;rw[hc]at hx;have hlm:yJ<=m:=by rw[hmm];split<;>omega
  obtain⟨ms,hms⟩:=Deep.choose_lt (α:=α) (n:=yJ) (p:=fun i y=>w.cells? 0 (a.add (i*sz)) sz=some (cells y)/\ ∀(j:Nat) (s:ByteArray),(cells y)[j]?=some (.string s)->s.size<=Rows.uptoBulk (D i)) (fun i hi=>by
   obtain⟨cs',h1,h2⟩:=hx i (by omega);obtain⟨y,rfl⟩:=hfit (uH n hk h2);exact⟨y,h1,Aj n hk h2⟩)
  refine⟨ms,⟨by omega,fun hpl=>?_⟩,fun i hi j s hs=>?_⟩
  ·obtain⟨b,o,sp⟩:=a
   have h0:=(hms 0 hpl).1;have hs:=EX h0 hpos;have hsp:sp=none:=by simpa[Addr.add]using hs.1
   subst hsp;refine⟨b,o,rfl,by simpa[Addr.add]using hs.2,fun i hi j v hv=>?_⟩;refine JH (hms i hi).1 ?_ hv;unfold Addr.add;by_cases hi0:i*sz=0
   ·simp[hi0]
   ·simp[hi0]
  ·have h1:=(hms i hi).2 j s hs
   have h2:=Jw.part_le (d:=D i) (l:=(List.range yJ).map D) (List.mem_map.2 ⟨i,List.mem_range.2 hi,rfl⟩);simp only[Rows.uptoBulk];omega
end Go.Proofs.YtedcakchekaemaaGreatDoor
namespace Go.Proofs.YtedcakchekaemaaGreatDoor
open Go.RowKit Go.Shelf Go.Lib Go.WideShapes
theorem JI:(Rows.laid_unicode_utf8_acceptRanges:DataW Unit)=Lib.acceptData:=by kernel_rfl
theorem Nn:Rows.laid_unicode_utf8_first=Lib.firstData:=Pinned.utf8First_eq
def uI:List ByteArray:=(List.range 10).map fun k:Nat=>fG (k:Int)
theorem Np:(Rows.laid_crier_space_words:DataW Unit)=qI uI:=by kernel_rfl
def kI:List (String×DataW Unit):=[("unicode/utf8.acceptRanges",Rows.laid_unicode_utf8_acceptRanges),("errors.errorType",Rows.laid_errors_errorType),("crier/space.words",Rows.laid_crier_space_words),("unicode/utf8.first",Rows.laid_unicode_utf8_first)]
def EY:List (String×DataW Unit):=[("unicode/utf8.acceptRanges",Lib.acceptData),("crier/space.words",qI uI),("unicode/utf8.first",Lib.firstData)]
theorem zw:(kI.filter fun x=>x.2.handleName?.isNone)=EY:=by
 have e:(kI.filter fun x=>x.2.handleName?.isNone)=[("unicode/utf8.acceptRanges",Rows.laid_unicode_utf8_acceptRanges),("crier/space.words",Rows.laid_crier_space_words),("unicode/utf8.first",Rows.laid_unicode_utf8_first)]:=by rfl
 rw[e,JI,Nn,Np];rfl
def rR(w:World):Prop:=jG w/\dz w/\pG w
theorem rR.own{w w':World}(h:rR w)(ho:ai [] w w'):rR w':=⟨h.1.own (S:=[]) ho (by simp),h.2.1.own ho,h.2.2.own ho⟩
theorem Nq{W:World}(h:laidMetH Tryz.prog kI W):laidMet Tryz.prog EY W:=by
 have h':laidMet Tryz.prog (kI.filter fun x=>x.2.handleName?.isNone) W/\handlesMet Tryz.prog (kI.filter fun x=>x.2.handleName?.isSome) W:=h;rw[zw]at h';exact h'.1
theorem Ro{W:World}(h:laidMetH Tryz.prog kI W)(hs:W.ShapedOpen Tryz.prog):rR W:=by
 have h1:=Nq h;refine⟨?_,?_,Tryz.laysContainsM.s1_3 W hs⟩
 ·exact utf8Tabs_of_readsT (U8Types.of196 Tryz.laysValid) ⟨by kernel_rfl,by kernel_rfl,by kernel_rfl,by kernel_rfl,by kernel_rfl,by kernel_rfl,by kernel_rfl⟩ (Lib.laidMet.reads h1 (.tail _ (.tail _ (.head _)))) (Lib.laidMet.reads h1 (.head _))
 ·obtain⟨g',t',cs,fuel,p,hg',ht',hvar,hd⟩:=Lib.laidMet.reads h1 (n:= "crier/space.words") (d:=qI uI) (.tail _ (.head _))
  obtain rfl:=Option.some.inj ((show Tryz.prog.globalNamed "crier/space.words" =some 0 by kernel_rfl).symm.trans hg');obtain rfl:=Option.some.inj ((show(Tryz.prog.globals[0]?).map (·.type)=some 269 by kernel_rfl).symm.trans ht');have hcs:=yN Tryz.underlying269 Tryz.underlying9 (by kernel_rfl) (by kernel_rfl) hd;intro k hk;have hc:=World.var?_cell (show Tryz.prog.globalNamed "crier/space.words" =some 0 by kernel_rfl) hvar k;rw[hc];have:cs[k]?=(cs.toList)[k]?:=by simp
  rw[this,hcs];unfold uI;simp[hk]
noncomputable def uJ (os:Os):World:=
 let w0:=World.holding Tryz.prog os ⟨#[],#[],[]⟩
 let put (h:Array Obj) (g:Nat) (cs:Array Value):Array Obj:=h.modify g fun
  | .cells _ t frozen=>.cells cs t frozen
  |o=>o
 let h1:=put w0.heap 2 (Lib.firstTab.map fun z=>Value.int .u8 z).toArray
 let h2:=put h1 3 ((List.range 16).flatMap fun i=>[Value.int .u8 (Lib.accLo i),Value.int .u8 (Lib.accHi i)]).toArray
 let h3:=put h2 0 (uI.map Value.string).toArray
 let h4:=put h3 4 #[.iface 484 (.agg #[typeHandle Tryz.prog 331])]
 {w0 with heap:=h4}
theorem Nr(os:Os)(args:Array Value):laidMetH Tryz.prog kI ((uJ os).forCall (fun _ _=>0) ⟨#[],args,[]⟩).memory:=by
 refine laidMetH_of_parts ?_ (by kernel_rfl);rw[zw];unfold EY;exact(LaidIn.of_run (l:=[("unicode/utf8.acceptRanges",Lib.acceptData),("crier/space.words",qI uI),("unicode/utf8.first",Lib.firstData)]) [2,3,0] 8 (by kernel_rfl) (by kernel_rfl) (by kernel_rfl) (by kernel_rfl)).met
structure Rp where
 topic:ByteArray
 text:ByteArray
 qos:Int
 ret:Bool
def Rp.cells(m:Rp):List Value:=[.string m.topic,.string m.text,.int .i64 m.qos,.bool m.ret]
def Rp.val(m:Rp):Value:=.agg #[.string m.topic,.string m.text,.int .i64 m.qos,.bool m.ret]
end Go.Proofs.YtedcakchekaemaaGreatDoor
namespace Go.Proofs.YtedcakchekaemaaGreatDoor
open Go
theorem BD{P:Program}{f:FuncId}{fn:Func}{s:ChangeSpec}{c:OpenClaim}
  (k1:c.wf (OpenSpec.ofChange s)=true)(k2:laidOutB P=true)(k3:mapsRowed P=true)(k4:fn.params.all (P.readableRec ·)=true)(k5:namedTie P c.named s.vars=true)
  (k6:(c.stops==[])=true)(k7:(P.stops==[])=true)(k8:(c.knobs==[])=true)(k9:(P.stopKnobs==[])=true)
  (k10:(c.inPlace==P.inPlace f)=true)(k11:(c.unfollowed==P.unfollowed f)=true)(k12:(c.recurses==P.recurses f)=true)(k13:(c.named==P.varsNamed f)=true)
  (k14:(c.maps==(fn.params.toList++s.plain.varTypes P).any (P.mapsRec ·))=true)(k15:(c.ifaces==(fn.params.toList++s.plain.varTypes P).any (P.ifacesRec ·))=true)(k16:(c.mapsOut==P.mapsAmong fn.resultTypes.toList)=true)
  (k17:(c.loops==(fn.params.toList++s.plain.varTypes P).any (P.loopsFrom ·))=true)(k18:(c.wideKeys==(fn.params.toList++s.plain.varTypes P++fn.resultTypes.toList).any (P.wideKeysFrom ·))=true)
  (k19:s.vars.all (P.varReadable ·)=true)(k20:fn.resultTypes.all (fun t=>P.readableRec t&&decide (t<P.types.size))=true)(k21:(c.ifacesOut==fn.resultTypes.toList.any (P.ifacesRec ·))=true)(k22:(c.loopsOut==fn.resultTypes.toList.any (P.loopsFrom ·))=true)
  (k23:(c.plainKeys==P.plainKeys)=true)(k24:c.shortTexts.isNone=true)(k25:P.stopsHeard=true)(k26:P.mayEnter=true)(k27:(c.lifted==P.liftsFinal)=true)(k28:(P.make==some c.make)=true)
  (k29:(c.kinds==(if c.domain.isEmpty then[]else fn.params.toList.map fun t=>match P.underlying t with|some (.int k)=>some k|_=>none))=true)(k30:(c.pinned==c.pinnedBy)=true)
  (k31:(c.veiled==(fn.params.toList++s.plain.varTypes P++fn.resultTypes.toList).any (P.veiledRec ·))=true)(k32:c.veiledFits P fn.params.toList (fn.params.toList++s.plain.varTypes P++fn.resultTypes.toList)=true):
  joinedFacts P f fn s c=true:=by
 unfold joinedFacts;rw[k1,k2,k3,k4,k5,k6,k7,k8,k9,k10,k11,k12,k13,k14,k15,k16,k17,k18,k19,k20,k21,k22,k23,k24,k25,k26,k27,k28];simp only[Bool.true_and,Bool.and_eq_true];exact⟨⟨⟨k29,k30⟩,k31⟩,k32⟩
end Go.Proofs.YtedcakchekaemaaGreatDoor
namespace Go.Proofs.YtedcakchekaemaaGreatDoor
open Go.RowKit
theorem Tm(w:World)(hT:rR w):Calls Tryz.prog 11 #[] w fun e w'=>e=.returned (.bool true)/\ai [] w w':=by
 go_enter Tryz.func11,Tryz.ntmps11
 go_wp2_with fail
 refine(L6 w).mono ?_;rintro e w1 ⟨p,m,h,hm,bb,r,rfl,hS,aH,hp,hm',hr⟩;have hT1:=hT.own aH;have cT:=HV w1 hS hT1.1 hT1.2.1 hT1.2.2;unfold gJ gB nB at cT;change Hid _ at aH;replace cT:=af cT;clear hS hT1;go_wp2_with fail
 refine cT.out.mono ?_;rintro e w2 ⟨rfl,n,rr,a,hF,hp2,hM2,hO2⟩;have aaq:ai [] w w2:=aH.out.trans' hO2 (fun z hz=>.inr (by simp at hz;omega));have XO:=(ai.refl [] w2).alloc (.cells #[.int .i64 5,.string ⟨#[103]⟩,.string ⟨#[110]⟩,.bool true] 31);have hp3:=XO.heap hp2 (by simp);have dY:=hM2.own XO (by simp);have vT:=hF.own XO;have hO3:=af (aaq.trans XO);have h0:(w2.alloc (.cells #[.int .i64 5,.string ⟨#[103]⟩,.string ⟨#[110]⟩,.bool true] 31)).cell? ⟨p,0,none⟩=some (.map (some m)):=by rw[cell_of_row _ _ _ _ _ _ hp3];rfl
 have cN:=af (Mc _ h0 dY vT);have cA:=af fun W (ho:ai [] (w2.alloc (.cells #[.int .i64 5,.string ⟨#[103]⟩,.string ⟨#[110]⟩,.bool true] 31)) W)=>Af W (ho.heap hp3 (by simp))
 obtain⟨v0,v1,v2,v3⟩:=fC (heap_alloc_new w2 (.cells #[.int .i64 5,.string ⟨#[103]⟩,.string ⟨#[110]⟩,.bool true] 31));clear cT hF hp2 hM2 hO2 aaq hp3 dY vT h0 XO;go_wp2_with(first
  |(go_at_call 10;(with_reducible refine cN.out.mono ?_);rintro e w4 ⟨⟨a4,c4,rfl⟩,hO4⟩;have Ie:=af (cA.out _ hO4);replace hO4:=af hO4)
  |(go_at_call 30;(with_reducible refine Ie.out.mono ?_);rintro e w5 ⟨rfl,rfl⟩))
 go_ret
 exact⟨rfl,hO3.out.trans hO4.out⟩
end Go.Proofs.YtedcakchekaemaaGreatDoor
namespace Go.Proofs.YtedcakchekaemaaGreatDoor
open Go.RowKit
variable [Kd]
def U9(m:PM):bP:=⟨m.name,m.has,m.al,m.time,m.ty,m.hist,m.trans,m.null,(none,0,0),(none,0,0),m.v.k,m.v.n,m.v.s,(none,0,0),(none,0,0)⟩
def Qd(p:uP):gT:=⟨p.t,p.h,p.s,p.u,p.b,none,p.M.map U9,0⟩
theorem Qe{p:uP}{q:gT}(h:q.t=p.t/\q.h=p.h/\q.s=p.s/\q.u=p.u/\q.b=p.b/\q.M.map bP.pl=p.M):Ab q (Qd p):=
 ⟨h.2.1,h.2.2.1,by rw[h.2.2.2.2.2];simp[Qd,U9,bP.pl,Function.comp_def]⟩
def jL(s:EN)(k:Int)(d x:ByteArray):Int×EN:=match N9 (ak x)with
 |none=>(3,{s with pending:=true})
 |some p=>vM s k d (Qd p)
theorem LH(n:Nat)(g nm:ByteArray)(L:EW)(s:EN)(w:World)(h:au w n g nm L s):Calls Tryz.prog 95 #[.pointer (some ⟨n,0,none⟩)] w fun e w'=>e=.returned (.int .i64 3)/\au w' n g nm L {s with pending:=true}/\ai [n] w w':=by
 obtain⟨⟨k2,k3,k4,k5,k6,k7,k8⟩,f2,f3,f5,f6,f7,f8⟩:=aM h (S:=[]) (by simp) _ (ai.refl _ _);have cN:=af (gQ n ⟨L.rb,0,none⟩ w k4);have hp:=af h.pend;clear h k2 k3 k6 k7 k8 f2 f3 f6 f7 f8;go_enter Tryz.func95,Tryz.ntmps95
 go_wp2_with(go_at_call 59;(with_reducible refine cN.out.mono ?_);rintro e w1 ⟨rfl,rfl⟩)
 go_ret
 exact⟨rfl,hp.out⟩
theorem au.blk_mem{x:gy}:x.blk∈x.feet:=by unfold gy.feet EW.feet;simp
def Ee(K:aU)(A B:List gy)(nd:gy)(eb:Nat)(x:sI)(r:Int×EN)(w:World)(e:Ending)(w':World):Prop:=
 e=.returned (.bool true)/\aQ w' eb {x with code:=r.1}/\ ∃L',bq w' {K with NS:=A++{nd with L:=L',s:=r.2}::B}/\ai (eb::nd.feet) w w'/\ ∀z∈aU.feet {K with NS:=A++{nd with L:=L',s:=r.2}::B},z∈K.feet\/w.heap.size<=z
theorem Qf(K:aU)(A B:List gy)(nd:gy)(eb:Nat)(x:sI)(w:World)(H:bq w K)(BJ:K.NS=A++nd::B)(hx:aQ w eb x)(hap:eb∉K.feet)(hn:x.node=aK nd.blk)(hr:dh bQ.name nd.s.dev)(hs:x.text.size<=140737488351232)(hK:aN w)(hE:jm w):
  Calls Tryz.prog 56 #[aK K.p,aK eb] w (Ee K A B nd eb x (jL nd.s x.s.k x.s.d x.text) w):=by
 obtain⟨⟨rc,rs⟩,hR⟩: ∃R,jL nd.s x.s.k x.s.d x.text=R:=⟨_,rfl⟩;rw[hR];unfold jL at hR;have hmem:nd∈K.NS:=by rw[BJ];simp
 have hne:eb∉nd.feet:=fun h=>hap (aU.n_mem hmem eb h)
 obtain⟨c0,c1,c2,c3,c4,c5,c6,c7,c8,c9,c10,c11,c12,c13⟩:=bE hx;obtain⟨w1,c,hcv,aH,cP⟩:=Qc x.text w hs hK;have hel:=aj hx;replace cP:=af cP;replace H:=af H;clear hK aH;go_enter Tryz.func56,Tryz.ntmps56
 go_wp2_with fail
 refine cP.out.mono ?_;intro e w2 hp2;clear cP hcv c0 c1 c2 c3 c4 c5 c6 c7 c8 c9 c10 c11 c12 c13;cases hpy:N9 (ak x.text)with
 |none=>
  rw[hpy]at hp2 hR;simp only at hR;obtain⟨⟨ec,ay,rfl⟩,hO2⟩:=hp2;have hA3:=(ai.refl [] w2).alloc (.cells #[.int .u64 0,.bool false,.int .u64 0,.string ⟨#[]⟩,.string ⟨#[]⟩,.slice none 0 0] 54);have hO3:=hO2.trans hA3;have ji:=hx.own hO3 (by simp);have rO:=H.out.nil' hO3;have q:(ec !=0)=true:=by simpa using ay
  clear hA3 hO2;go_upto_region 3 with(fail)
  generalize(w2.alloc (.cells #[.int .u64 0,.bool false,.int .u64 0,.string ⟨#[]⟩,.string ⟨#[]⟩,.slice none 0 0] 54))=w3 at*;obtain⟨d0,d1,d2,d3,d4,d5,d6,d7,d8,d9,zh,Ak,Al,BG⟩:=bE ji;rw[hn]at d9;have cR:=af (LH nd.blk nd.g nd.n nd.L nd.s w3 (rO.eds nd hmem));change Hid _ at rO;replace ji:=af ji;replace hO3:=af hO3;clear d0 d1 d2 d3 d4 d5 d6 d7 d8 zh Ak Al BG;go_wp2_with fail
  refine cR.out.mono ?_;rintro e w4 ⟨rfl,QZ,hO4⟩;have kr:ai nd.feet w3 w4:=hO4.mono (by intro z hz;simp at hz;subst hz;exact au.blk_mem);have jN:=ji.out.own kr hne;obtain⟨HZ,UL⟩:=rO.out.node BJ QZ kr (fun z hz=>.inl hz);obtain⟨iF,aB,XU⟩:=jN.setc (y:={x with code:=3}) 10 (.int .i64 3) (fun w' h=>h);have b10:=(bE jN).2.2.2.2.2.2.2.2.2.2.1;have MJ:=hO3.out.size;have hno:eb∉aU.feet {K with NS:=A++{nd with L:=nd.L,s:={nd.s with pending:=true}}::B}:=fun h=>by
   rcases UL eb h with h1|h1
   ·exact hap h1
   ·omega
  have hS5:=af (HZ.own aB (fun z hz hc=>by simp at hc;subst hc;exact hno hz));have o6:=af ((hO3.out.nil.trans (kr.mono (by intro z hz;exact List.mem_cons_of_mem _ hz))).trans (aB.mono (by intro z hz;simp at hz;subst hz;simp):ai (eb::nd.feet) w4 _));have hFf:=af (fun z hz=>(UL z hz).imp id (fun h=>Nat.le_trans MJ h));change Hid _ at iF;clear cR QZ hO4 kr jN HZ UL aB hno d9;go_wp2_with fail
  go_ret
  simp only[Prod.mk.injEq]at hR;obtain⟨rfl,rfl⟩:=hR;exact⟨rfl,iF.out,_,hS5.out,o6.out,hFf.out⟩
 |some p=>
  rw[hpy]at hp2 hR;simp only at hR;obtain⟨⟨q,hq,hqs,rfl,hqM,acs,Jr⟩,hO2⟩:=hp2;rw[<-PW (Qe hq)]at hR;clear hq hpy p;obtain⟨qt,qh,qs,qu,qb,qa,qM,qc⟩:=q;unfold gT.val;simp only at hqs hqM acs Jr⊢;have hA3:=(ai.refl [] w2).alloc (.cells #[.int .u64 qt,.bool qh,.int .u64 qs,.string qu,.string qb,.slice qa qM.length qc] 54);have hb3:=heap_alloc_new w2 (.cells #[.int .u64 qt,.bool qh,.int .u64 qs,.string qu,.string qb,.slice qa qM.length qc] 54);have hO3:=hO2.trans hA3;have ji:=hx.own hO3 (by simp);have rO:=H.out.nil' hO3;have dY:dR _ qa qM:=hqM.nil' hA3;have ZY:jm _:=hE.nil hO3;have hsz2:=hO2.size;clear hA3 hO2 hqM;go_upto_region 5 with(fail)
  generalize hnM:qM.length=nM at*;generalize(w2.alloc (.cells #[.int .u64 qt,.bool qh,.int .u64 qs,.string qu,.string qb,.slice qa nM qc] 54))=W at*;generalize w2.heap.size=pb at*;have acv:eb≠pb:=by omega
  have acw:pb∉nd.feet:=fun h=>by have:=H.out.lt pb (aU.n_mem hmem pb h);omega
  have cT:=af fun W' (ho:ai [] W W')=>VS nd.blk nd.g nd.n nd.L nd.s x.s.k x.s.d ⟨qt,qh,qs,qu,qb,qa,qM,qc⟩ W' ((rO.nil' ho).eds nd hmem) hr (dY.nil' ho) hqs (ZY.nil ho)
  unfold gT.val at cT;simp only[hnM,hR]at cT;have hS:Hid (∀W' y,ai (eb::nd.feet) W W'->aQ W' eb y->y.s=x.s->y.node=x.node->(W'.cell? ⟨eb,9,none⟩=some (aK nd.blk)/\W'.cell? ⟨eb,5,none⟩=some (.int .i64 x.s.k)/\W'.cell? ⟨eb,8,none⟩=some (.string x.s.d))/\W'.cell? ⟨pb,0,none⟩=some (.int .u64 qt)/\W'.cell? ⟨pb,1,none⟩=some (.bool qh)/\W'.cell? ⟨pb,2,none⟩=some (.int .u64 qs)/\W'.cell? ⟨pb,3,none⟩=some (.string qu)/\W'.cell? ⟨pb,4,none⟩=some (.string qb)/\W'.cell? ⟨pb,5,none⟩=some (.slice qa nM qc)):=af (fun W' y ho hy q1 q2=>by
   obtain⟨e0,e1,e2,e3,e4,e5,e6,e7,e8,e9,e10,e11,e12,e13⟩:=bE hy;rw[q1]at e5 e8;rw[q2,hn]at e9;exact⟨⟨e9,e5,e8⟩,vZ (ho.heap hb3 (by simp;exact⟨Ne.symm acv,acw⟩))⟩)
  have kW:=hS.out W _ (ai.refl _ _) ji rfl rfl;have Ib:=hS.out W.drew _ ((ai.refl _ _).drew) (ji.own (S:=[]) (ai.refl [] W).drew (by simp)) rfl rfl;change Hid _ at rO hnM;replace hO3:=af hO3;clear hb3 dY ZY hR;go_wp2_with fail
  go_region_held3(fun W'=>(W'.cell? ⟨eb,9,none⟩=some (aK nd.blk)/\W'.cell? ⟨eb,5,none⟩=some (.int .i64 x.s.k)/\W'.cell? ⟨eb,8,none⟩=some (.string x.s.d))/\W'.cell? ⟨pb,0,none⟩=some (.int .u64 qt)/\W'.cell? ⟨pb,1,none⟩=some (.bool qh)/\W'.cell? ⟨pb,2,none⟩=some (.int .u64 qs)/\W'.cell? ⟨pb,3,none⟩=some (.string qu)/\W'.cell? ⟨pb,4,none⟩=some (.string qb)/\W'.cell? ⟨pb,5,none⟩=some (.slice qa nM qc)) (first|with_reducible exact kA|with_reducible exact kB|with_reducible exact Ib|with_reducible exact kW|go_keep)
   ((go_at_call 96;((with_reducible refine(cT.out _ (by first|exact ai.refl _ _|exact(ai.refl [] W).drew)).mono ?_);rintro e w3 ⟨rfl,L',QZ,MK,Z0⟩;have eu:ai nd.feet W w3:=(by first|exact((ai.refl _ W).drew).trans MK|exact MK);have Z4: ∀z∈L'.feet nd.blk,z∈nd.feet\/W.heap.size<=z:=Z0;have jN:=ji.own eu hne;have dw:ai (eb::nd.feet) W w3:=eu.mono (by intro z hz;exact List.mem_cons_of_mem _ hz);have kA:=hS.out _ x dw jN rfl rfl;obtain⟨iF,aB,XU⟩:=jN.setc (y:={x with code:=rc}) 10 (.int .i64 rc) (fun w' h=>h);have bI:ai (eb::nd.feet) W _:=dw.trans (aB.mono (by intro z hz;simp at hz;subst hz;simp));have kB:=hS.out _ _ bI iF rfl rfl;have b10:=(bE jN).2.2.2.2.2.2.2.2.2.2.1)))
  all_goals
   obtain⟨HZ,UL⟩:=rO.out.node BJ QZ eu Z4;have MJ:=hO3.out.size;have hno:eb∉aU.feet {K with NS:=A++{nd with L:=L',s:=rs}::B}:=fun h=>by
    rcases UL eb h with h1|h1
    ·exact hap h1
    ·omega
   have hS5:=af (HZ.own aB (fun z hz hc=>by simp at hc;subst hc;exact hno hz));have o6:=af (hO3.out.nil.trans bI);have hFf:=af (fun z hz=>(UL z hz).imp id (fun h=>Nat.le_trans MJ h));change Hid _ at iF;clear kA kB kW Ib hS cT QZ MK Z0 Z4 eu dw jN HZ UL aB hno;go_wp2_with fail
   go_ret
   exact⟨rfl,iF.out,_,hS5.out,o6.out,hFf.out⟩
def nW(s:kH)(topic text:ByteArray)(bi:List Bi):List Bi:=
 if s.k=1\/s.k=5 then(xS topic text bi).2 else if s.k=2 then xU (eH s).1 bi else if s.k=6 then xU (eH s).2 bi else bi
theorem yw(s:kH):(iB s).1.size<=1000:=by
 unfold iB;split
 ·exact Nat.zero_le _
 ·split
  ·exact Nat.zero_le _
  ·split
   ·exact Nat.zero_le _
   ·rename_i h
    split
    ·exact Ca (by simpa using h)
    ·exact Nat.zero_le _
theorem yZ(s:kH):(eH s).1.size<=1048576/\(eH s).2.size<=1048576:=by
 have h1:=yw ⟨1,s.g,s.n,aG⟩;have h2:=yw ⟨5,s.g,s.n,s.d⟩;unfold eH;split
 ·exact⟨Nat.zero_le _,Nat.zero_le _⟩
 ·split
  ·exact⟨Nat.zero_le _,Nat.zero_le _⟩
  ·split
   ·exact⟨by show(iB _).1.size<=_;omega,Nat.zero_le _⟩
   ·split
    ·exact⟨Nat.zero_le _,Nat.zero_le _⟩
    ·exact⟨by show(iB _).1.size<=_;omega,by show(iB _).1.size<=_;omega⟩
def Ac(K:aU)(eb:Nat)(x:sI)(L:List Bi)(w:World)(e:Ending)(w':World):Prop:=
 e=.returned (.bool false)/\aQ w' eb x/\ ∃v,bq w' {K with bv:=v,bi:=L}/\ai (aZ K.bb K.bv) w w'/\ ∀z∈aU.feet {K with bv:=v,bi:=L},z∈K.feet\/w.heap.size<=z
theorem V5{K:aU}{eb:Nat}{x:sI}{L:List Bi}{w w1 w2 w3:World}(H:bq w K)(hx:aQ w eb x)(hap:eb∉K.feet)(h1:ai [] w w1)(hB:Bh K.bb K.bv L w1 w2)(h3:ai [] w2 w3):aQ w3 eb x/\ ∃v,bq w3 {K with bv:=v,bi:=L}/\ai (aZ K.bb K.bv) w w3/\ ∀z∈aU.feet {K with bv:=v,bi:=L},z∈K.feet\/w.heap.size<=z:=by
 obtain⟨v,hB,hO,hf⟩:=hB;have hne:eb∉aZ K.bb K.bv:=fun h=>hap (K.b_mem eb h)
 obtain⟨hS,hF⟩:=(H.nil' h1).births hB hO hf;exact⟨((hx.own h1 (by simp)).own hO hne).own h3 (by simp),v,hS.nil' h3,(h1.nil.trans hO).trans h3.nil,fun z hz=>(hF z hz).imp id (fun h=>Nat.le_trans h1.size h)⟩
theorem SY(K:aU)(eb:Nat)(x:sI)(w:World)(H:bq w K)(hx:aQ w eb x)(hap:eb∉K.feet)(hc:x.code=1)(hso:fK K.bi)(hfl:(nW x.s x.topic x.text K.bi).length<=40)(ht:x.topic.size<=1048576)(hW:dz w)(hT:jG w)(hM:pG w):
  Calls Tryz.prog 57 #[aK K.p,aK eb] w (Ac K eb x (nW x.s x.topic x.text K.bi) w):=by
 obtain⟨L,hL⟩: ∃L,nW x.s x.topic x.text K.bi=L:=⟨_,rfl⟩;rw[hL]at hfl⊢;unfold nW at hL;obtain⟨c0,c1,c2,c3,c4,c5,c6,c7,c8,c9,c10,c11,c12,c13⟩:=bE hx;rw[hc]at c10;have cB:=vK x.s w hW hT hM;obtain⟨hz1,hz2⟩:=yZ x.s;obtain⟨t1,ht1⟩: ∃t,(eH x.s).1=t:=⟨_,rfl⟩;obtain⟨t2,ht2⟩: ∃t,(eH x.s).2=t:=⟨_,rfl⟩;rw[ht1,ht2]at cB;rw[ht1]at hz1 hL;rw[ht2]at hz2 hL;have hkeep:Hid (∀W,ai [] w W->dz W/\jG W/\pG W/\bq W K/\aQ W eb x):=af fun W ho=>⟨hW.own ho,hT.own (S:=[]) ho (by simp),hM.own ho,H.nil' ho,hx.own ho (by simp)⟩
 have kS:Hid (∀W,ai [] w W->W.cell? ⟨K.p,2,none⟩=some (aK K.bb)/\W.cell? ⟨eb,1,none⟩=some (.string x.topic)/\W.cell? ⟨eb,2,none⟩=some (.string x.text)):=af fun W ho=>by
  obtain⟨e0,e1,e2,_⟩:=bE (hx.own ho (by simp));exact⟨(H.nil' ho).c.2.2.1,e1,e2⟩
 have hfin:=af (fun w1 w2 w3 (h1:ai [] w w1) (hB:Bh K.bb K.bv L w1 w2) (h3:ai [] w2 w3)=>V5 H hx hap h1 hB h3);replace cB:=af cB;go_enter Tryz.func57,Tryz.ntmps57
 go_wp2_with fail
 refine cB.out.mono ?_;rintro e w2 ⟨rfl,hO2⟩;obtain⟨hW2,lC,hM2,hS2,hE2⟩:=hkeep.out _ hO2;obtain⟨d0,d1,d2,d3,d4,d5,d6,d7,d8,d9,zh,Ak,Al,BG⟩:=bE hE2;have p2:=hS2.c.2.2.1;clear cB c0 c1 c2 c3 c4 c5 c6 c7 c8 c9 c10 c11 c12 c13 hW hT hM;generalize hk:x.s.k=k at*;by_cases k15:k=1\/k=5
 ·rw[if_pos k15]at hL
  have cP:=O8 K.bb K.bv x.topic x.text K.bi w2.drew (hS2.bi.nil' ((ai.refl [] w2).drew)) hso ht (hW2.own ((ai.refl [] w2).drew)) (lC.own (S:=[]) ((ai.refl [] w2).drew) (by simp)) (hM2.own ((ai.refl [] w2).drew)) (by rw[hL];exact hfl);rw[hL]at cP;generalize(xS x.topic x.text K.bi).1=en at*;have kW:=kS.out w2 hO2;have Ib:=kS.out w2.drew hO2.drew;have hfo:=af hO2;replace cP:=af cP;clear hS2 hE2 hW2 lC hM2 hL d0 d1 d2 d3 d4 d6 d7 d8 d9 zh Ak Al BG p2;rcases k15 with rfl|rfl
  all_goals
   go_wp2_with fail
   go_region_held3(fun W=>W.cell? ⟨K.p,2,none⟩=some (aK K.bb)/\W.cell? ⟨eb,1,none⟩=some (.string x.topic)/\W.cell? ⟨eb,2,none⟩=some (.string x.text)) (first|with_reducible exact Ib|with_reducible exact kW|go_keep)
    ((go_at_call 98;(with_reducible refine cP.out.mono ?_);rintro e w5 ⟨rfl,zi⟩;have hfi:=af (hfin.out _ _ w5 (hfo.out.drew) zi (ai.refl _ _));have kA:w5.cell? ⟨K.p,2,none⟩=some (aK K.bb)/\w5.cell? ⟨eb,1,none⟩=some (.string x.topic)/\w5.cell? ⟨eb,2,none⟩=some (.string x.text):=(by obtain⟨iF,v5,hS5,_⟩:=hfi.out;obtain⟨e0,e1,e2,_⟩:=bE iF;exact⟨hS5.c.2.2.1,e1,e2⟩)))
   all_goals
    clear Ib kW hfin hkeep kS;go_wp2_with fail
    go_ret
    exact⟨rfl,hfi.out⟩
 rw[if_neg k15]at hL;simp only[not_or]at k15;have q1:(k==1)=false:=by simpa using k15.1
 have q5:(k==5)=false:=by simpa using k15.2
 by_cases k2:k=2
 ·rw[if_pos k2]at hL
  subst k2;have cD:=zW K.bb K.bv t1 K.bi w2 hS2.bi hz1 hW2 lC hM2;rw[hL]at cD;have hfo:=af hO2;replace cD:=af cD;clear hS2 hE2 hW2 lC hM2 hL d0 d1 d2 d3 d4 d6 d7 d8 d9 zh Ak Al BG;go_wp2_with fail
  refine cD.out.mono ?_;rintro e w5 ⟨⟨n5,rfl⟩,zi⟩;have hfi:=af (hfin.out _ _ w5 hfo.out zi (ai.refl _ _));clear cD zi hfin hkeep kS;go_wp2_with fail
  go_ret
  exact⟨rfl,hfi.out⟩
 rw[if_neg k2]at hL;have q2:(k==2)=false:=by simpa using k2
 by_cases k6:k=6
 ·rw[if_pos k6]at hL
  subst k6;have cD:=zW K.bb K.bv t2 K.bi w2 hS2.bi hz2 hW2 lC hM2;rw[hL]at cD;have hfo:=af hO2;replace cD:=af cD;clear hS2 hE2 hW2 lC hM2 hL d0 d1 d2 d3 d4 d6 d7 d8 d9 zh Ak Al BG;go_wp2_with fail
  refine cD.out.mono ?_;rintro e w5 ⟨⟨n5,rfl⟩,zi⟩;have hfi:=af (hfin.out _ _ w5 hfo.out zi (ai.refl _ _));clear cD zi hfin hkeep kS;go_wp2_with fail
  go_ret
  exact⟨rfl,hfi.out⟩
 rw[if_neg k6]at hL;subst hL;have q6:(k==6)=false:=by simpa using k6
 have hfi:=af (show aQ w2 eb x/\ ∃v,bq w2 {K with bv:=v,bi:=K.bi}/\ai (aZ K.bb K.bv) w w2/\ ∀z∈aU.feet {K with bv:=v,bi:=K.bi},z∈K.feet\/w.heap.size<=z from⟨hE2,K.bv,hS2,hO2.nil,fun z hz=>.inl hz⟩);clear hS2 hE2 hW2 lC hM2 hfin hkeep kS k15 k2 k6;go_wp2_with fail
 go_ret
 exact⟨rfl,hfi.out⟩
theorem ni.cut{w:World}{rb:Nat}{gap:Int}{B:List Nat}{l:gN}(h:ni w rb gap B l):ni w rb gap (B.filter fun z=>decide (z<w.heap.size)) l:=by
 obtain⟨v,ms,h1,h2,h3,h4,h5⟩:=h.at_;refine⟨h.len,h.nd,h.gp,v,ms,h1,h2,?_,fun g hg=>?_,fun x hx=>?_⟩
 ·exact List.mem_filter.2 ⟨h3,by simpa using aj h1.row⟩
 ·refine List.mem_filter.2 ⟨h4 g hg,?_⟩
  rcases h1.marks.own.2 with⟨q1,_⟩|⟨g',cap,cur,q1,_,q2,_⟩
  ·rw[q1]at hg;cases hg
  ·rw[q1]at hg
   simp[Value.ownBlock]at hg;subst hg;simpa using aj q2
 ·exact List.mem_filter.2 ⟨h5 x hx,by simpa using aj (h1.marks.marks x hx).1⟩
def Ad(K:aU)(eb:Nat)(x:sI)(may:Bool)(l:gN)(w:World)(e:Ending)(w':World):Prop:=
 e=.returned (.bool false)/\aQ w' eb {x with ask:=may}/\ ∃B,bq w' {K with RB:=B,ra:=l,asked:=K.asked+if may then 1 else 0}/\ai (eb::K.p::K.RB) w w'/\ ∀z∈aU.feet {K with RB:=B,ra:=l,asked:=K.asked+if may then 1 else 0},z∈K.feet\/w.heap.size<=z
theorem S9(K:aU)(eb:Nat)(x:sI)(w:World)(hx:aQ w eb x)(hc:x.code<3):
  Calls Tryz.prog 58 #[aK K.p,aK eb] w fun e w'=>e=.returned (.bool false)/\ai [] w w':=by
 obtain⟨c0,c1,c2,c3,c4,c5,c6,c7,c8,c9,c10,c11,c12,c13⟩:=bE hx;have q3: ¬(3:Int)<=x.code:=by omega
 have hcc:(decide (3<=x.code))=false:=by simpa using hc
 go_enter Tryz.func58,Tryz.ntmps58
 go_wp2_with fail
 go_quiet(fail)
 go_wp2_with fail
 go_ret
 exact⟨rfl,(ai.refl [] w).drewN _⟩
theorem Ta(K:aU)(eb:Nat)(x:sI)(w:World)(H:bq w K)(hx:aQ w eb x)(hap:eb∉K.feet)(hc:3<=x.code)(ha0:x.ask=false)(Z5:K.asked<1000000)(hg:x.s.g.size<=1048576)(hn:x.s.n.size<=1048576):
  Calls Tryz.prog 58 #[aK K.p,aK eb] w (Ad K eb x (oC K.ra 10 (bW x.s.g x.s.n) x.at') (rU K.ra 10 (bW x.s.g x.s.n) x.at') w):=by
 have cA:=fun W (hR:ni W K.r 10 K.RB K.ra)=>Iw K.r 10 K.RB K.ra (bW x.s.g x.s.n) x.at' W hR
 unfold Ay at cA;have cT:=af (Ct x.s.g x.s.n hg hn);generalize oC K.ra 10 (bW x.s.g x.s.n) x.at'=may at*;generalize rU K.ra 10 (bW x.s.g x.s.n) x.at'=l at*;change Hid _ at cA;have XQ:K.p∉K.RB:=by
  have hn2:=nQ (A:=[[K.p],[K.m],[K.h,K.hm],aZ K.bb K.bv]) (C:=K.RB) (B:=K.NS.map gy.feet) H.apart;exact hn2 [K.p] (by simp) K.p (by simp)
 have YM:eb∉K.RB:=fun h=>hap (K.r_mem eb h)
 have hpe:K.p≠eb:=fun e=>hap (by rw[<-e];exact K.p_mem)
 have hR:=af H.ra;have hS:Hid (∀W',ai K.RB w W'->W'.cell? ⟨eb,10,none⟩=some (.int .i64 x.code)/\W'.cell? ⟨eb,6,none⟩=some (.string x.s.g)/\W'.cell? ⟨eb,7,none⟩=some (.string x.s.n)/\W'.cell? ⟨eb,0,none⟩=some (.int .i64 x.at')/\W'.cell? ⟨K.p,3,none⟩=some (aK K.r)):=af (fun W' ho=>by
  obtain⟨e0,e1,e2,e3,e4,e5,e6,e7,e8,e9,e10,e11,e12,e13⟩:=bE (hx.own ho YM);exact⟨e10,e6,e7,e0,cell_of_row _ _ 3 _ _ _ (ho.heap H.sp XQ)⟩)
 obtain⟨s1,s2,s3,s4,s5⟩:=hS.out w (ai.refl _ _);go_enter Tryz.func58,Tryz.ntmps58
 go_wp2_with fail
 have hcc:(decide (3<=x.code))=true:=by simpa using hc
 have hw:ai K.RB w w:=ai.refl _ _;have hwd:ai K.RB w w.drew:=hw.drew;have kW:=hS.out _ hwd;go_region_held3(fun W'=>W'.cell? ⟨eb,10,none⟩=some (.int .i64 x.code)/\W'.cell? ⟨eb,6,none⟩=some (.string x.s.g)/\W'.cell? ⟨eb,7,none⟩=some (.string x.s.n)/\W'.cell? ⟨eb,0,none⟩=some (.int .i64 x.at')/\W'.cell? ⟨K.p,3,none⟩=some (aK K.r)) (first|with_reducible exact kB|with_reducible exact kA|with_reducible exact kW|go_keep)
  ((first
    |(go_at_call 101;(with_reducible refine(cT.out _).mono ?_);rintro e w2 ⟨rfl,hO2⟩;have mR:ai K.RB w w2:=(by first|exact hO2.nil|exact hwd.trans hO2.nil);have kA:=hS.out _ mR;have hR2:=hR.out.nil (by first|exact hO2|exact((ai.refl [] w).drew).trans hO2))
    |(go_at_call 100;(with_reducible refine(cA.out _ hR2).mono ?_);rintro e w3 ⟨rfl,B',eP,hO3,hB3⟩;have dO:=mR.trans hO3;have kB:=hS.out _ dO;have hsz2:=mR.size)))
 all_goals
  have ji:=hx.own dO YM;have hp3:=dO.heap H.sp XQ;have hRc:=eP.cut;have Z6: ∀z∈B'.filter (fun z=>decide (z<w3.heap.size)),z∈K.RB\/w.heap.size<=z:=fun z hz=>(hB3 z (List.mem_filter.1 hz).1).imp id (fun h=>Nat.le_trans hsz2 h)
  have hBl: ∀z∈B'.filter (fun z=>decide (z<w3.heap.size)),z<w3.heap.size:=fun z hz=>by simpa using(List.mem_filter.1 hz).2
  have zm:ai (K.p::K.RB) w w3:=dO.mono (by intro z hz;exact List.mem_cons_of_mem _ hz);have hel:=aj hx;generalize B'.filter (fun z=>decide (z<w3.heap.size))=B at*;clear kA kB kW hS cT cA hR hR2 eP hB3 hO3;cases may with
  |false=>
   obtain⟨lW,Jt⟩:=H.rate hRc zm hp3 Z6 hBl ⟨H.ask.1,by have:=H.ask.2;omega⟩;have Xz:=af lW;have XA:=af Jt;have o6:=af (zm.mono (by intro z hz;exact List.mem_cons_of_mem _ hz):ai (eb::K.p::K.RB) w w3);have jN:=af (show aQ w3 eb {x with ask:=false}by rw[<-ha0];exact ji);clear lW Jt zm hRc Z6 hBl ji hp3 dO mR hO2;go_wp2_with fail
   go_ret
   exact⟨rfl,jN.out,B,by simpa using Xz.out,o6.out,by simpa using XA.out⟩
  |true=>
   obtain⟨jN,hO4,z13⟩:=ji.setc (y:={x with ask:=true}) 13 (.bool true) (fun w' h=>h);have c13:=(bE ji).2.2.2.2.2.2.2.2.2.2.2.2.2;have za:=hO4.heap hp3 (by simpa using hpe);have p4:(w3.setCell ⟨eb,13,none⟩ (.bool true)).cell? ⟨K.p,4,none⟩=some (.int .i64 K.asked):=cell_of_row _ _ 4 _ _ _ za;have z4:=frozen_of_row _ K.p 4 _ _ za;have aB:ai [K.p] (w3.setCell ⟨eb,13,none⟩ (.bool true)) ((w3.setCell ⟨eb,13,none⟩ (.bool true)).setCell ⟨K.p,4,none⟩ (.int .i64 (K.asked+1))):=(ai.refl [K.p] _).setCell (.inl (by simp)) _;have iF:=jN.own aB (by simpa using hpe.symm);have WA:((w3.setCell ⟨eb,13,none⟩ (.bool true)).setCell ⟨K.p,4,none⟩ (.int .i64 (K.asked+1))).heap[K.p]?=some (.cells #[.map (some K.m),aK K.h,aK K.bb,aK K.r,.int .i64 (K.asked+1)] 73 (0,0)):=by
    have:=heap_setCell_same _ K.p 4 _ _ (.int .i64 (K.asked+1)) za;simpa using this
   have hwr:IntKind.wrap .i64 (K.asked+1)=K.asked+1:=by have:=H.ask;rw[IntKind.wrap_i64];omega
   have YN:ai (eb::K.p::K.RB) w ((w3.setCell ⟨eb,13,none⟩ (.bool true)).setCell ⟨K.p,4,none⟩ (.int .i64 (K.asked+1))):=
    ((dO.mono (by intro y hy;simp[hy])).trans (hO4.mono (by simp))).trans (aB.mono (by simp))
   obtain⟨rO,vT⟩:=H.rate hRc zm hp3 Z6 hBl ⟨H.ask.1,by have:=H.ask.2;omega⟩;have Z7:eb∉aU.feet {K with RB:=B,ra:=l,asked:=K.asked}:=fun h=>by
    rcases vT eb h with h1|h1
    ·exact hap h1
    ·omega
   have HZ:=rO.own hO4 (fun z hz hc=>by simp at hc;subst hc;exact Z7 hz);have Z8:K.p∉B:=fun hz=>by
    rcases Z6 _ hz with h1|h1
    ·exact XQ h1
    ·have:=aj H.sp;omega
   obtain⟨lW,acy⟩:=HZ.rate (B:=B) (l:=l) (n:=K.asked+1) (HZ.ra.own aB (fun z hz hc=>by simp at hc;subst hc;exact Z8 hz)) (aB.mono (by intro z hz;simp at hz;subst hz;simp)) WA (fun z hz=>.inl hz) (fun z hz=>Nat.lt_of_lt_of_le (hBl z hz) (Nat.le_trans hO4.size aB.size)) ⟨by have:=H.ask.1;omega,by omega⟩;have Jt: ∀z∈aU.feet {K with RB:=B,ra:=l,asked:=K.asked+1},z∈K.feet\/w.heap.size<=z:=fun z hz=>by
    have h1:z∈aU.feet {K with RB:=B,ra:=l,asked:=K.asked}:=hz;exact vT z h1
   have Xz:=af lW;have XA:=af Jt;change Hid _ at YN iF;clear lW Jt zm hRc Z6 hBl ji hp3 dO mR hO2 WA aB jN hO4 za rO vT HZ acy Z7 Z8;go_wp2_with fail
   go_ret
   exact⟨rfl,iF.out,B,by simpa using Xz.out,YN.out,by simpa using XA.out⟩
structure Vd where
 code:Int
 g:ByteArray
 n:ByteArray
 ask:Bool
def yx:EN:=⟨false,0,0,false,false,[],[],[]⟩
def jC(S:SP)(k:Rk):Option (SP×EN):=match aS S.nodes k with
 |some e=>some (S,e)
 |none=>if k.1.toList.isEmpty=true\/k.2.toList.isEmpty=true\/8<=S.nodes.length then none else some ({S with nodes:=S.nodes++[(k,yx)]},yx)
def vw(S:SP)(s:kH)(at':Int)(t x:ByteArray)(e:EN):Vd×SP:=
 if(jL e s.k s.d x).1=1 then(⟨1,s.g,s.n,false⟩,{S with nodes:=bZ S.nodes (s.g,s.n) (jL e s.k s.d x).2,bi:=nW s t x S.bi})
 else if(jL e s.k s.d x).1<3 then(⟨(jL e s.k s.d x).1,s.g,s.n,false⟩,{S with nodes:=bZ S.nodes (s.g,s.n) (jL e s.k s.d x).2})
 else(⟨(jL e s.k s.d x).1,s.g,s.n,oC S.ra 10 (bW s.g s.n) at'⟩,{S with nodes:=bZ S.nodes (s.g,s.n) (jL e s.k s.d x).2,ra:=rU S.ra 10 (bW s.g s.n) at',asked:=S.asked+if oC S.ra 10 (bW s.g s.n) at' then 1 else 0})
def dK(S:SP)(at':Int)(t x:ByteArray):Vd×SP:=
 if sV (jP t).k=false then(⟨0,aG,aG,false⟩,S)
 else if(jP t).k=9 then(⟨(jS S.hs (jP t).n x).1,aG,(jP t).n,false⟩,{S with hs:=(jS S.hs (jP t).n x).2})
 else match jC S ((jP t).g,(jP t).n)with
  |none=>(⟨8,(jP t).g,(jP t).n,false⟩,S)
  |some p=>vw p.1 (jP t) at' t x p.2
theorem yA{α β:Type}(f:α->β)(l:List gy)(h:gy->α)(k:Rk):aS (l.map fun x=>(x.key,f (h x))) k=((l.find? fun x=>x.key==k).map fun x=>f (h x)):=by
 induction l with
 |nil=>rfl
 |cons y r ih=>
  unfold aS at ih⊢;cases hy:(y.key==k)with
  |true=>simp[hy]
  |false=>simp[hy];simpa using ih
theorem G6{l:List gy}{k:Rk}{y:gy}(h:(l.find? fun x=>x.key==k)=some y): ∃A B,l=A++y::B/\y.key=k:=by
 obtain⟨h1,A,B,h2,_⟩:=List.find?_eq_some_iff_append.1 h;exact⟨A,B,h2,LawfulBEq.eq_of_beq h1⟩
theorem Qg{α:Type}{A B:List (Rk×α)}{k:Rk}{u v:α}(h:k∉A.map (·.1)):bZ (A++(k,u)::B) k v=A++(k,v)::B:=by
 induction A with
 |nil=>simp[bZ]
 |cons p r ih=>
  simp only[List.map_cons,List.mem_cons,not_or]at h;have hp:(p.1==k)=false:=by
   rw[Bool.eq_false_iff];intro hh;exact h.1 (LawfulBEq.eq_of_beq hh).symm
  simp[bZ,hp,ih h.2]
theorem aU.put_sp{K:aU}{A B:List gy}{nd:gy}{L:EW}{s:EN}(BJ:K.NS=A++nd::B)(hnd:(K.NS.map gy.key).Nodup):
  aU.sp {K with NS:=A++{nd with L:=L,s:=s}::B}={K.sp with nodes:=bZ K.sp.nodes nd.key s}:=by
 have hno:nd.key∉(A.map fun x=>(x.key,x.s)).map (·.1):=fun h=>by
  rw[BJ,List.map_append,List.map_cons,List.nodup_append]at hnd;rw[List.map_map]at h;exact hnd.2.2 _ h nd.key (by simp) rfl
 unfold aU.sp;simp only[BJ,List.map_append,List.map_cons];rw[Qg hno];rfl
def yB(K:aU)(eb:Nat)(x:sI)(w:World)(e:Ending)(w':World):Prop:=
 match jC K.sp (x.s.g,x.s.n)with
 |none=>e=.returned (.bool false)/\aQ w' eb {x with vg:=x.s.g,code:=8}/\bq w' K/\ai (eb::K.feet) w w'
 |some p=>e=.returned (.bool true)/\ ∃K' A nd B,(K'.NS=A++nd::B/\nd.key=(x.s.g,x.s.n)/\nd.s=p.2/\K'.sp=p.1/\K'.p=K.p)/\aQ w' eb {x with vg:=x.s.g,node:=aK nd.blk}/\bq w' K'/\ai (eb::K.feet) w w'/\ ∀z∈K'.feet,z∈K.feet\/w.heap.size<=z
theorem Qh(K:aU)(eb:Nat)(x:sI)(w:World)(H:bq w K)(hx:aQ w eb x)(hap:eb∉K.feet):
  Calls Tryz.prog 55 #[aK K.p,aK eb] w (yB K eb x w):=by
 have hsub: ∀{w1:World},ai [eb] w w1->ai (eb::K.feet) w w1:=fun h=>h.mono (by intro z hz;simp at hz;subst hz;simp)
 have hoff: ∀{w1:World},ai [eb] w w1->bq w1 K:=fun h=>H.own h (fun z hz hc=>by simp at hc;subst hc;exact hap hz)
 have e1:=yA id K.NS gy.s (x.s.g,x.s.n);have e2:=yA (fun y:gy=>aK y.blk) K.NS id (x.s.g,x.s.n);simp only[id]at e1 e2;unfold yB jC;rw[show aS K.sp.nodes (x.s.g,x.s.n)=_ from e1];cases hf:(K.NS.find? fun y=>y.key==(x.s.g,x.s.n))with
 |some nd=>
  rw[hf]at e2;obtain⟨A,B,BJ,hk⟩:=G6 hf;exact(GD K eb x nd w H hx hap e2).mono fun e w' ⟨h1,h2,h3⟩=>⟨h1,K,A,nd,B,⟨BJ,hk,rfl,rfl,rfl⟩,h2,hoff h3,hsub h3,fun z hz=>.inl hz⟩
 |none=>
  rw[hf]at e2;have hlen:K.sp.nodes.length=K.NS.length:=by unfold aU.sp;simp
  simp only[Option.map_none];by_cases hb:x.s.g.toList.isEmpty=true\/x.s.n.toList.isEmpty=true
  ·rw[if_pos (hb.elim .inl (fun h=>.inr (.inl h)))]
   exact(Pq K eb x w H hx hap e2 hb).mono fun e w' ⟨h1,h2,h3⟩=>⟨h1,h2,hoff h3,hsub h3⟩
  ·simp only[not_or,Bool.not_eq_true]at hb
   by_cases h8:8<=K.sp.nodes.length
   ·rw[if_pos (.inr (.inr h8))]
    have:=H.few;exact(Lp K eb x w H hx hap e2 hb.1 hb.2 (by omega)).mono fun e w' ⟨h1,h2,h3⟩=>⟨h1,h2,hoff h3,hsub h3⟩
   ·rw[if_neg (by simp[hb.1,hb.2,h8])]
    refine(Pv K eb x w H hx hap e2 hb.1 hb.2 (by omega)).mono ?_;rintro e w' ⟨h1,n,L,h2,h3,h4,h5⟩;refine⟨h1,{K with NS:=K.NS++[⟨x.s.g,x.s.n,n,L,yx⟩]},K.NS,⟨x.s.g,x.s.n,n,L,yx⟩,[],⟨rfl,rfl,rfl,?_,rfl⟩,h2,h3,h4.mono (by intro z hz;simp at hz;rcases hz with rfl|rfl;exact List.mem_cons_self;exact List.mem_cons_of_mem _ K.m_mem),h5⟩;unfold aU.sp;simp[yx,gy.key]
theorem yC(t:ByteArray):(jP t).g.size<=1048576/\(jP t).n.size<=1048576:=by
 unfold jP;split
 ·rename_i h
  have h1:=h.1;generalize lJ (dQ t)=s at h1;unfold iB at h1;split at h1
  ·cases h1
  ·split at h1
   ·cases h1
   ·rename_i hx
    split at h1
    ·cases h1
    ·rename_i hf
     have hfr:(iY s).all gX=true:=by simpa using hf
     unfold iY at hfr;by_cases h9:s.k=9
     ·rw[if_pos h9]at hfr
      simp only[List.all_cons,List.all_nil,Bool.and_true]at hfr;have hn:=fq hfr;have hg:s.g.size=0:=by
       by_cases hg:s.g.size=0
       ·exact hg
       ·exact absurd (.inr ⟨h9,hg⟩) hx
      omega
     ·rw[if_neg h9]at hfr
      by_cases h5:5<=s.k
      ·rw[if_pos h5]at hfr
       simp only[List.all_cons,List.all_nil,Bool.and_true,Bool.and_eq_true]at hfr;have:=fq hfr.1;have:=fq hfr.2.1;omega
      ·rw[if_neg h5]at hfr
       simp only[List.all_cons,List.all_nil,Bool.and_true,Bool.and_eq_true]at hfr;have:=fq hfr.1;have:=fq hfr.2;omega
 ·exact⟨Nat.zero_le _,Nat.zero_le _⟩
structure qx (w:World):Prop where
 words:dz w
 tabs:jG w
 maxc:pG w
 kinds:aN w
 errs:jm w
theorem qx.own{w w':World}(h:qx w)(ho:ai [] w w'):qx w':=⟨h.words.own ho,h.tabs.own (S:=[]) ho (by simp),h.maxc.own ho,h.kinds.own ho,h.errs.nil ho⟩
theorem TK.nil'{w0 w w':World}{K0 K:aU}{eb:Nat}{x:sI}(H:TK w0 w K0 K eb x)(ho:ai [] w w'):TK w0 w' K0 K eb x:=
 H.step (H.sk.nil' ho) (H.en.own ho (by simp)) ho.nil (fun z hz=>.inl hz) rfl
def G8(K:aU)(r:Vd×SP)(w:World)(e:Ending)(w':World):Prop:=
 e=.returned (.agg #[.int .i64 r.1.code,.string r.1.g,.string r.1.n,.bool r.1.ask])/\ ∃K':aU,bq w' K'/\K'.sp=r.2/\K'.p=K.p/\ai K.feet w w'/\ ∀z∈K'.feet,z∈K.feet\/w.heap.size<=z
theorem jD{w Wt W:World}{K Kt:aU}{b q1:Nat}{x:sI}(H:TK w Wt K Kt b x)(hO:ai [q1] Wt W)(hq:q1∉Kt.feet)(hw:w.heap.size<=q1):bq W Kt/\(ai K.feet w W/\ ∀z∈Kt.feet,z∈K.feet\/w.heap.size<=z):=
 ⟨H.sk.own hO (fun z hz hc=>by simp at hc;subst hc;exact hq hz),H.own.trans' hO (fun z hz=>.inr (by simp at hz;subst hz;exact hw)),H.new⟩
theorem qW{K K':aU}{w:World}{q:Nat}(h:q∉K.feet)(hl:q<w.heap.size)(hf: ∀z∈K'.feet,z∈K.feet\/w.heap.size<=z):q∉K'.feet:=fun hx=>by
 rcases hf q hx with h1|h1
 ·exact h h1
 ·omega
theorem G9{K:aU}{k:Rk}{p:SP×EN}(h:jC K.sp k=some p)(hi: ∀y∈K.NS,dh bQ.name y.s.dev):dh bQ.name p.2.dev:=by
 unfold jC at h;cases hg:aS K.sp.nodes k with
 |some e=>
  rw[hg]at h;cases h;rw[show aS K.sp.nodes k=_ from yA id K.NS gy.s k]at hg;obtain⟨y,hy,rfl⟩:=Option.map_eq_some_iff.1 hg;exact hi y (List.mem_of_find?_eq_some hy)
 |none=>
  rw[hg]at h;simp only at h;split at h
  ·cases h
  ·cases h
   exact List.Pairwise.nil
theorem LX{S:SP}{k:Rk}{p:SP×EN}(h:jC S k=some p):p.1.bi=S.bi/\p.1.ra=S.ra/\p.1.asked=S.asked:=by
 unfold jC at h;cases hg:aS S.nodes k with
 |some e=>rw[hg]at h;cases h;exact⟨rfl,rfl,rfl⟩
 |none=>
  rw[hg]at h;simp only at h;split at h
  ·cases h
  ·cases h;exact⟨rfl,rfl,rfl⟩
theorem He(W0 w:World)(K:aU)(at':Int)(t x:ByteArray)(qos:Int)(ret:Bool)(H:bq w K)(hL:qx W0)(hOb:ai [] W0 w)(hft: ∀z∈K.feet,W0.heap.size<=z)(ht:t.size<=1048576)(hxs:x.size<=140737488351232)(Z5:K.asked<1000000)(hso:fK K.bi)(hinv: ∀y∈K.NS,dh bQ.name y.s.dev)(hbi:(dK K.sp at' t x).2.bi.length<=40):
  Calls Tryz.prog 9 #[aK K.p,.int .i64 at',.agg #[.string t,.string x,.int .i64 qos,.bool ret]] w (G8 K (dK K.sp at' t x) w):=by
 obtain⟨R,hR⟩: ∃R,dK K.sp at' t x=R:=⟨_,rfl⟩;rw[hR]at hbi⊢;unfold dK at hR;obtain⟨hsg,hsn⟩:=yC t;have Q0: ∀{K':aU} {W},ai K.feet w W->qx W:=fun ho=>hL.own (hOb.trans' ho (fun z hz=>.inr (hft z hz)))
 have cO:=fun W (h:qx W)=>wW t W ht h.words h.tabs h.maxc
 generalize jP t=S at*;obtain⟨sk,sg,sn,sd⟩:=S;unfold sU at cO;simp only at hR hsg hsn cO;have hA:=(((ai.refl [] w).alloc (.cells #[.string t,.string x,.int .i64 qos,.bool ret] 29)).alloc (.cells #[.int .i64 0,.string ⟨#[]⟩,.string ⟨#[]⟩,.bool false] 31));have cN:=mZ K.p K.m _ (H.nil' hA).c.1;change Hid _ at hR;replace cN:=af cN;replace Q0:=af (fun K' W ho=> @Q0 K' W ho);go_enter Tryz.func9,Tryz.ntmps9
 go_wp2_with(go_at_call 22;((with_reducible refine cN.out.mono ?_);rintro e w2 ⟨rfl,rfl⟩))
 clear cN;have hq0:((w.alloc (.cells #[.string t,.string x,.int .i64 qos,.bool ret] 29)).alloc (.cells #[.int .i64 0,.string ⟨#[]⟩,.string ⟨#[]⟩,.bool false] 31)).heap[w.heap.size]?=some (.cells #[.string t,.string x,.int .i64 qos,.bool ret] 29 (0,0)):=by
  rw[Below.heap_alloc _ _ _ (by simp)];exact heap_alloc_new _ _
 have hq1:((w.alloc (.cells #[.string t,.string x,.int .i64 qos,.bool ret] 29)).alloc (.cells #[.int .i64 0,.string ⟨#[]⟩,.string ⟨#[]⟩,.bool false] 31)).heap[w.heap.size+1]?=some (.cells #[.int .i64 0,.string ⟨#[]⟩,.string ⟨#[]⟩,.bool false] 31 (0,0)):=heap_alloc2_new _ _ _;generalize((w.alloc (.cells #[.string t,.string x,.int .i64 qos,.bool ret] 29)).alloc (.cells #[.int .i64 0,.string ⟨#[]⟩,.string ⟨#[]⟩,.bool false] 31))=W1 at*;obtain⟨q0,Q5⟩: ∃q,q=w.heap.size:=⟨_,rfl⟩;obtain⟨q1,Q6⟩: ∃q,q=w.heap.size+1:=⟨_,rfl⟩;rw[<-Q6]at hq1⊢;rw[<-Q5]at hq0⊢;have UM:=aj hq1;have Ik:Hid (w.heap.size<=q1):=af (by omega);have hqK:q1∉K.feet:=fun hz=>by have:=H.lt q1 hz;omega
 clear Q5 Q6;obtain⟨s0,s1,s2,s3⟩:=fC hq0;have XB:=af (cO W1.drew (Q0.out K _ (hA.drew.nil)));have QG:Hid (∀W,ai [] W1.drew W->W.cell? ⟨q0,0,none⟩=some (.string t)/\W.cell? ⟨q0,1,none⟩=some (.string x)/\W.cell? ⟨q0,2,none⟩=some (.int .i64 qos)/\W.cell? ⟨q0,3,none⟩=some (.bool ret)):=af fun W ho=>
  fC ((ai.refl [] W1).drew.trans ho |>.heap hq0 (by simp))
 have kW:=QG.out W1.drew (ai.refl _ _);go_region_held3(fun W=>W.cell? ⟨q0,0,none⟩=some (.string t)/\W.cell? ⟨q0,1,none⟩=some (.string x)/\W.cell? ⟨q0,2,none⟩=some (.int .i64 qos)/\W.cell? ⟨q0,3,none⟩=some (.bool ret))
  (first|with_reducible exact kA|with_reducible exact kW|go_keep)
  ((first|(go_at_call 23;(with_reducible refine XB.out.mono ?_);rintro e w3 ⟨rfl,hO3⟩;have kA:=QG.out _ hO3)))
 all_goals
  have Il:ai [] W1 w3:=(ai.refl [] W1).drew.trans hO3;have hw3:=hA.trans Il;have hT:TK w (w3.alloc (.cells #[.int .i64 at',.string t,.string x,.int .i64 qos,.bool ret,.int .i64 sk,.string sg,.string sn,.string sd,.pointer none,.int .i64 0,.string ⟨#[]⟩,.string ⟨#[]⟩,.bool false] 80)) K K w3.heap.size ⟨at',t,x,qos,ret,⟨sk,sg,sn,sd⟩,.pointer none,0,⟨#[]⟩,⟨#[]⟩,false⟩:=by
   have hO4:=hw3.alloc (.cells #[.int .i64 at',.string t,.string x,.int .i64 qos,.bool ret,.int .i64 sk,.string sg,.string sn,.string sd,.pointer none,.int .i64 0,.string ⟨#[]⟩,.string ⟨#[]⟩,.bool false] 80);have hz:=hw3.size;exact⟨H.nil' hO4,heap_alloc_new _ _,fun hx=>by have:=H.lt _ hx;omega,hO4.nil,fun z hz=>.inl hz,hz,rfl⟩
  have hV:=(Il.alloc (.cells #[.int .i64 at',.string t,.string x,.int .i64 qos,.bool ret,.int .i64 sk,.string sg,.string sn,.string sd,.pointer none,.int .i64 0,.string ⟨#[]⟩,.string ⟨#[]⟩,.bool false] 80)).heap hq1 (by simp);clear kA kW QG XB hq0 s0 s1 s2 s3;have Z9:q1<w3.heap.size:=Nat.lt_of_lt_of_le UM Il.size;clear hq1 Il hw3 hO3 hA;generalize w3.alloc (.cells #[.int .i64 at',.string t,.string x,.int .i64 qos,.bool ret,.int .i64 sk,.string sg,.string sn,.string sd,.pointer none,.int .i64 0,.string ⟨#[]⟩,.string ⟨#[]⟩,.bool false] 80)=W4 at*;generalize w3.heap.size=b at*;change Hid _ at hV;replace hT:=af hT;go_wp2_with go_in
  have EB:=(ai.refl [] W4).alloc (.cells #[.func (.func 53) #[aK K.p] #[],.func (.func 54) #[aK K.p] #[],.func (.func 55) #[aK K.p] #[],.func (.func 56) #[aK K.p] #[],.func (.func 57) #[aK K.p] #[],.func (.func 58) #[aK K.p] #[]] 85);have hSt:=heap_alloc_new W4 (.cells #[.func (.func 53) #[aK K.p] #[],.func (.func 54) #[aK K.p] #[],.func (.func 55) #[aK K.p] #[],.func (.func 56) #[aK K.p] #[],.func (.func 57) #[aK K.p] #[],.func (.func 58) #[aK K.p] #[]] 85);have MN:=hT.out.nil' EB;have Uy:=EB.heap hV.out (by simp);have aac:b<W4.heap.size:=aj hT.out.en;have aad:q1<W4.heap.size:=aj hV.out;have aae:W4.heap.size∉K.feet:=fun hz=>by have:=hT.out.sk.lt _ hz;omega
  clear hT hV EB;generalize(W4.alloc (.cells #[.func (.func 53) #[aK K.p] #[],.func (.func 54) #[aK K.p] #[],.func (.func 55) #[aK K.p] #[],.func (.func 56) #[aK K.p] #[],.func (.func 57) #[aK K.p] #[],.func (.func 58) #[aK K.p] #[]] 85))=W5 at*;generalize W4.heap.size=st at*;have hT:=af MN;have hV:=af Uy;change Hid _ at hSt;have hq:=af hqK;have XC:=af aae;have Jr:Hid (q1≠b/\st≠b):=af ⟨by omega,by omega⟩;clear MN Uy hqK aae aac aad Z9 UM;refine wp_loop_rounds 6 ?_;rw[rounds_succ];have c0:W5.cell? ⟨st,0,none⟩=some (.func (.func 53) #[aK K.p] #[]):=cell_of_row _ st 0 _ _ _ hSt.out;go_wp2_with fail
  have vU:=(ai.refl [] W5).alloc (.cells #[.func (.func 53) #[aK K.p] #[]] 85);have iy:=hT.out.nil' vU;have mU:=vU.heap hSt.out (by simp);have kZ:=vU.heap hV.out (by simp);have hla:=vU.size;clear c0 hT hSt hV;generalize(W5.alloc (.cells #[.func (.func 53) #[aK K.p] #[]] 85))=Wa at*;have cc:=Ck K.p b ⟨at',t,x,qos,ret,⟨sk,sg,sn,sd⟩,.pointer none,0,⟨#[]⟩,⟨#[]⟩,false⟩ Wa iy.en;simp only at cc;cases htl:sV sk with
  |false=>
   rw[htl]at cc;have hR':=hR.out;rw[if_pos htl]at hR';replace cc:=af cc;have hT:=af iy;have hV:=af kZ;clear iy mU kZ hR;refine cc.out.mono ?_;rintro e Wt ⟨rfl,rfl⟩;generalize Wa=Wt at*;obtain⟨e0,e1,e2,e3,e4,e5,e6,e7,e8,e9,e10,e11,e12,e13⟩:=bE hT.out.en;obtain⟨v0,v1,v2,v3⟩:=fC hV.out;obtain⟨z0,z1,z2,z3,_⟩:=UX hV.out;have hset:=Ar hV.out (.int .i64 (0)) (.string ⟨#[]⟩) (.string ⟨#[]⟩) (.bool false);have iW:ai [q1] Wt ((((Wt.setCell ⟨q1,0,none⟩ (.int .i64 (0))).setCell ⟨q1,1,none⟩ (.string ⟨#[]⟩)).setCell ⟨q1,2,none⟩ (.string ⟨#[]⟩)).setCell ⟨q1,3,none⟩ (.bool false)):=
    ((((ai.refl [q1] Wt).setCell (.inl (by simp)) _).setCell (.inl (by simp)) _).setCell (.inl (by simp)) _).setCell (.inl (by simp)) _
   have hfin:=af (jD hT.out iW hq.out Ik.out);have hpe:=af hT.out.pe;change Hid _ at hset;clear e0 e1 e2 e3 e4 e5 e6 e7 e8 e9 iW;go_wp2_with fail
   obtain⟨f0,f1,f2,f3⟩:=fC hset.out;refine bodyPost_ret (v:=.agg #[.int .i64 (0),.string ⟨#[]⟩,.string ⟨#[]⟩,.bool false]) (by simp[results,Tryz.results9,go_sem,f0,f1,f2,f3];try rfl) rfl ?_;rw[<-hR'];exact⟨rfl,K,hfin.out.1,rfl,(by first|rfl|exact hpe.out),hfin.out.2⟩
  |true=>
   rw[htl]at cc;replace cc:=af cc;have gu:=hR.out;rw[if_neg (by rw[htl];simp)]at gu;replace hR:=af gu;have hT:=af iy;have hV:=af kZ;have hSt:=af mU;clear iy mU kZ gu vU;refine cc.out.mono ?_;rintro e w6 ⟨rfl,rfl⟩;clear cc;generalize Wa=W6 at*;go_wp2_with fail
   rw[rounds_succ];have c1:W6.cell? ⟨st,1,none⟩=some (.func (.func 54) #[aK K.p] #[]):=cell_of_row _ st 1 _ _ _ hSt.out;go_wp2_with fail
   have hA1:=(ai.refl [] W6).alloc (.cells #[.func (.func 54) #[aK K.p] #[]] 85);have iy:=hT.out.nil' hA1;have mU:=hA1.heap hSt.out (by simp);have kZ:=hA1.heap hV.out (by simp);have hla:=hA1.size;clear c1 hT hSt hV;generalize(W6.alloc (.cells #[.func (.func 54) #[aK K.p] #[]] 85))=Wa at*;by_cases h9:sk=9
   ·subst h9
    have cc:=GA K b ⟨at',t,x,qos,ret,⟨9,sg,sn,sd⟩,.pointer none,0,⟨#[]⟩,⟨#[]⟩,false⟩ Wa iy.sk iy.en iy.ap rfl;simp only at cc;have gu:=hR.out;rw[if_pos rfl]at gu;rw[show K.sp.hs=K.hs from rfl]at gu;generalize jS K.hs sn x=hr at*;obtain⟨hc,hh⟩:=hr;simp only at cc gu;change Hid _ at kZ;replace cc:=af cc;replace iy:=af iy;clear mU hR;refine cc.out.mono ?_;rintro e Wt ⟨rfl,Na,UE,gU⟩;have ED:ai (b::K.feet) Wa Wt:=gU.mono (by intro z hz;simp at hz;rcases hz with rfl|rfl|rfl;exact List.mem_cons_self;exact List.mem_cons_of_mem _ K.h_mem.1;exact List.mem_cons_of_mem _ K.h_mem.2);have hT:=af (iy.out.step Na UE ED (fun z hz=>.inl hz) rfl);have hV:=af (ED.heap kZ.out (by simp only[List.mem_cons,not_or];exact⟨Jr.out.1,hq.out⟩));replace hq:Hid (q1∉aU.feet {K with hs:=hh}):=af hq.out;clear cc Na UE gU ED iy kZ;obtain⟨e0,e1,e2,e3,e4,e5,e6,e7,e8,e9,e10,e11,e12,e13⟩:=bE hT.out.en;obtain⟨v0,v1,v2,v3⟩:=fC hV.out;obtain⟨z0,z1,z2,z3,_⟩:=UX hV.out;have hset:=Ar hV.out (.int .i64 (hc)) (.string ⟨#[]⟩) (.string sn) (.bool false);have iW:ai [q1] Wt ((((Wt.setCell ⟨q1,0,none⟩ (.int .i64 (hc))).setCell ⟨q1,1,none⟩ (.string ⟨#[]⟩)).setCell ⟨q1,2,none⟩ (.string sn)).setCell ⟨q1,3,none⟩ (.bool false)):=
     ((((ai.refl [q1] Wt).setCell (.inl (by simp)) _).setCell (.inl (by simp)) _).setCell (.inl (by simp)) _).setCell (.inl (by simp)) _
    have hfin:=af (jD hT.out iW hq.out Ik.out);have hpe:=af hT.out.pe;change Hid _ at hset;clear e0 e1 e2 e3 e4 e5 e6 e7 e8 e9 iW;go_wp2_with fail
    obtain⟨f0,f1,f2,f3⟩:=fC hset.out;refine bodyPost_ret (v:=.agg #[.int .i64 (hc),.string ⟨#[]⟩,.string sn,.bool false]) (by simp[results,Tryz.results9,go_sem,f0,f1,f2,f3];try rfl) rfl ?_;rw[<-gu];exact⟨rfl,{K with hs:=hh},hfin.out.1,rfl,(by first|rfl|exact hpe.out),hfin.out.2⟩
   have cc:=wY K.p b ⟨at',t,x,qos,ret,⟨sk,sg,sn,sd⟩,.pointer none,0,⟨#[]⟩,⟨#[]⟩,false⟩ Wa iy.en h9;simp only at cc;replace cc:=af cc;have gu:=hR.out;rw[if_neg h9]at gu;replace hR:=af gu;change Hid _ at kZ mU;replace iy:=af iy;clear gu;refine cc.out.mono ?_;rintro e W7 ⟨rfl,gU,UE⟩;have ED:ai (b::K.feet) Wa W7:=gU.mono (by intro z hz;simp at hz;subst hz;simp);have hT:=af (iy.out.step (iy.out.sk.own gU (fun z hz hc=>by simp at hc;subst hc;exact iy.out.ap hz)) UE ED (fun z hz=>.inl hz) rfl);have hV:=af (ED.heap kZ.out (by simp only[List.mem_cons,not_or];exact⟨Jr.out.1,hq.out⟩));have hSt:=af (ED.heap mU.out (by simp only[List.mem_cons,not_or];exact⟨Jr.out.2,XC.out⟩));clear cc gU UE ED iy kZ mU hA1;go_wp2_with fail
   rw[rounds_succ];have c2:W7.cell? ⟨st,2,none⟩=some (.func (.func 55) #[aK K.p] #[]):=cell_of_row _ st 2 _ _ _ hSt.out;go_wp2_with fail
   have hA2:=(ai.refl [] W7).alloc (.cells #[.func (.func 55) #[aK K.p] #[]] 85);have iy:=hT.out.nil' hA2;have mU:=hA2.heap hSt.out (by simp);have kZ:=hA2.heap hV.out (by simp);have hla:=hA2.size;clear c2 hT hSt hV;generalize(W7.alloc (.cells #[.func (.func 55) #[aK K.p] #[]] 85))=Wa at*;have cc:=Qh K b ⟨at',t,x,qos,ret,⟨sk,sg,sn,sd⟩,.pointer none,0,⟨#[]⟩,sn,false⟩ Wa iy.sk iy.en iy.ap;unfold yB at cc;simp only at cc;cases hkn:jC K.sp (sg,sn)with
   |none=>
    rw[hkn]at cc;have gu:=hR.out;rw[hkn]at gu;simp only at gu cc;change Hid _ at kZ;replace cc:=af cc;replace iy:=af iy;clear mU hR;refine cc.out.mono ?_;rintro e Wt ⟨rfl,UF,MG,iV⟩;have hT:=af (iy.out.step MG UF iV (fun z hz=>.inl hz) rfl);have hV:=af (iV.heap kZ.out (by simp only[List.mem_cons,not_or];exact⟨Jr.out.1,hq.out⟩));clear cc MG UF iV iy kZ;obtain⟨e0,e1,e2,e3,e4,e5,e6,e7,e8,e9,e10,e11,e12,e13⟩:=bE hT.out.en;obtain⟨v0,v1,v2,v3⟩:=fC hV.out;obtain⟨z0,z1,z2,z3,_⟩:=UX hV.out;have hset:=Ar hV.out (.int .i64 (8)) (.string sg) (.string sn) (.bool false);have iW:ai [q1] Wt ((((Wt.setCell ⟨q1,0,none⟩ (.int .i64 (8))).setCell ⟨q1,1,none⟩ (.string sg)).setCell ⟨q1,2,none⟩ (.string sn)).setCell ⟨q1,3,none⟩ (.bool false)):=
     ((((ai.refl [q1] Wt).setCell (.inl (by simp)) _).setCell (.inl (by simp)) _).setCell (.inl (by simp)) _).setCell (.inl (by simp)) _
    have hfin:=af (jD hT.out iW hq.out Ik.out);have hpe:=af hT.out.pe;change Hid _ at hset;clear e0 e1 e2 e3 e4 e5 e6 e7 e8 e9 iW;go_wp2_with fail
    obtain⟨f0,f1,f2,f3⟩:=fC hset.out;refine bodyPost_ret (v:=.agg #[.int .i64 (8),.string sg,.string sn,.bool false]) (by simp[results,Tryz.results9,go_sem,f0,f1,f2,f3];try rfl) rfl ?_;rw[<-gu];exact⟨rfl,K,hfin.out.1,rfl,(by first|rfl|exact hpe.out),hfin.out.2⟩
   |some p=>
    rw[hkn]at cc;have gu:=hR.out;rw[hkn]at gu;simp only at gu cc;have hrs:=G9 hkn hinv;obtain⟨hkb,hkr,hka⟩:=LX hkn;obtain⟨S1,e1⟩:=p;simp only at gu cc hrs hkb hkr hka;replace cc:=af cc;replace hR:=af gu;change Hid _ at kZ mU;replace iy:=af iy;clear gu hkn;refine cc.out.mono ?_;rintro e W8 ⟨rfl,K8,A8,nd,B8,⟨BJ,hkey,hse,hsp,Ri⟩,UF,MG,iV,hf8⟩;have hT:=af (iy.out.step MG UF iV hf8 Ri);have hV:=af (iV.heap kZ.out (by simp only[List.mem_cons,not_or];exact⟨Jr.out.1,hq.out⟩));have hSt:=af (iV.heap mU.out (by simp only[List.mem_cons,not_or];exact⟨Jr.out.2,XC.out⟩));replace hq:=af (qW hq.out (aj kZ.out) hf8);replace XC:=af (qW XC.out (aj mU.out) hf8);clear cc UF MG iV hf8 iy kZ mU hA2;go_wp2_with fail
    rw[rounds_succ];have c3:W8.cell? ⟨st,3,none⟩=some (.func (.func 56) #[aK K.p] #[]):=cell_of_row _ st 3 _ _ _ hSt.out;go_wp2_with fail
    have hA3:=(ai.refl [] W8).alloc (.cells #[.func (.func 56) #[aK K.p] #[]] 85);have iy:=hT.out.nil' hA3;have mU:=hA3.heap hSt.out (by simp);have kZ:=hA3.heap hV.out (by simp);have hla:=hA3.size;clear c3 hT hSt hV;generalize(W8.alloc (.cells #[.func (.func 56) #[aK K.p] #[]] 85))=Wa at*;have Vp:=Q0.out K _ iy.own;have cc:=Qf K8 A8 B8 nd b ⟨at',t,x,qos,ret,⟨sk,sg,sn,sd⟩,aK nd.blk,0,sg,sn,false⟩ Wa iy.sk BJ iy.en iy.ap rfl (by rw[hse];exact hrs) hxs Vp.kinds Vp.errs;unfold Ee at cc;simp only at cc;rw[show aK K8.p=aK K.p by rw[Ri],hse]at cc;have gu:=hR.out;unfold vw at gu;simp only at gu;generalize hrr:jL e1 sk sd x=rr at*;obtain⟨rc,rs⟩:=rr;simp only at gu cc;replace cc:=af cc;replace hR:=af gu;change Hid _ at kZ mU;replace iy:=af iy;have aaf:=iy.out.sk.nd;clear gu Vp;refine cc.out.mono ?_;rintro e W9 ⟨rfl,ZI,L9,wI,o7,hf9⟩;have hmem:nd∈K8.NS:=by rw[BJ];simp
    have UN:ai (b::K8.feet) Wa W9:=o7.mono (by intro z hz;rcases List.mem_cons.1 hz with rfl|hz;exact List.mem_cons_self;exact List.mem_cons_of_mem _ (aU.n_mem hmem z hz));have UO:=aU.put_sp (L:=L9) (s:=rs) BJ aaf;rw[hsp,hkey]at UO;have hT:=af (iy.out.step wI ZI UN hf9 rfl);have hV:=af (UN.heap kZ.out (by simp only[List.mem_cons,not_or];exact⟨Jr.out.1,hq.out⟩));have hSt:=af (UN.heap mU.out (by simp only[List.mem_cons,not_or];exact⟨Jr.out.2,XC.out⟩));replace hq:=af (qW hq.out (aj kZ.out) hf9);replace XC:=af (qW XC.out (aj mU.out) hf9);have hb9:K8.bi=K.bi/\K8.ra=K.ra/\K8.asked=K.asked:=by
     have h1:K8.sp.bi=S1.bi:=by rw[hsp]
     have h2:K8.sp.ra=S1.ra:=by rw[hsp]
     have h3:K8.sp.asked=S1.asked:=by rw[hsp]
     exact⟨h1.trans hkb,h2.trans hkr,h3.trans hka⟩
    have hS1:K8.sp.bi=S1.bi/\K8.sp.ra=S1.ra/\K8.sp.asked=S1.asked:=by rw[hsp];exact⟨rfl,rfl,rfl⟩
    generalize hK9:({K8 with NS:=A8++{nd with L:=L9,s:=rs}::B8}:aU)=K9 at*;have Jm:K9.bi=K8.bi/\K9.ra=K8.ra/\K9.asked=K8.asked/\K9.p=K8.p:=by rw[<-hK9];exact⟨rfl,rfl,rfl,rfl⟩
    change Hid _ at hK9;clear cc ZI wI o7 UN hf9 iy kZ mU hA3 aaf hmem;go_wp2_with fail
    rw[rounds_succ];have c4:W9.cell? ⟨st,4,none⟩=some (.func (.func 57) #[aK K.p] #[]):=cell_of_row _ st 4 _ _ _ hSt.out;go_wp2_with fail
    have vD:=(ai.refl [] W9).alloc (.cells #[.func (.func 57) #[aK K.p] #[]] 85);have iy:=hT.out.nil' vD;have mU:=vD.heap hSt.out (by simp);have kZ:=vD.heap hV.out (by simp);have hla:=vD.size;clear c4 hT hSt hV;generalize(W9.alloc (.cells #[.func (.func 57) #[aK K.p] #[]] 85))=Wa at*;by_cases h1c:rc=1
    ·subst h1c
     have gu:=hR.out;rw[if_pos rfl]at gu;have Vp:=Q0.out K _ iy.own;have hbe:K9.bi=K.bi:=Jm.1.trans hb9.1;have hre:nW ⟨sk,sg,sn,sd⟩ t x K9.bi=nW ⟨sk,sg,sn,sd⟩ t x S1.bi:=by rw[hbe,hkb];rfl
     have cc:=SY K9 b ⟨at',t,x,qos,ret,⟨sk,sg,sn,sd⟩,aK nd.blk,1,sg,sn,false⟩ Wa iy.sk iy.en iy.ap rfl (by rw[hbe];exact hso) (by show(nW ⟨sk,sg,sn,sd⟩ t x K9.bi).length<=40;rw[hre];have:=hbi;rw[<-gu]at this;exact this) ht Vp.words Vp.tabs Vp.maxc;unfold Ac at cc;simp only at cc;rw[show aK K9.p=aK K.p by rw[Jm.2.2.2,Ri],hre]at cc;generalize hLr:nW ⟨sk,sg,sn,sd⟩ t x S1.bi=Lr at*;change Hid _ at kZ gu;replace cc:=af cc;replace iy:=af iy;clear mU hR Vp;refine cc.out.mono ?_;rintro e Wt ⟨rfl,aag,v10,BK,oh,XD⟩;have Q7:ai (b::K9.feet) Wa Wt:=oh.mono (by intro z hz;exact List.mem_cons_of_mem _ (K9.b_mem z hz));have hT:=af (iy.out.step BK aag Q7 XD rfl);have hV:=af (Q7.heap kZ.out (by simp only[List.mem_cons,not_or];exact⟨Jr.out.1,hq.out⟩));replace hq:=af (qW hq.out (aj kZ.out) XD);have heq:R=(⟨1,sg,sn,false⟩,aU.sp {K9 with bv:=v10,bi:=Lr}):=by
      rw[<-gu.out];have h0:K9.sp=_:=UO;have e1:aU.sp {K9 with bv:=v10,bi:=Lr}={K9.sp with bi:=Lr}:=rfl;rw[e1,h0]
     change Hid _ at heq;clear cc BK aag oh Q7 XD iy kZ;obtain⟨e0,e1,e2,e3,e4,e5,e6,e7,e8,e9,e10,e11,e12,e13⟩:=bE hT.out.en;obtain⟨v0,v1,v2,v3⟩:=fC hV.out;obtain⟨z0,z1,z2,z3,_⟩:=UX hV.out;have hset:=Ar hV.out (.int .i64 (1)) (.string sg) (.string sn) (.bool false);have iW:ai [q1] Wt ((((Wt.setCell ⟨q1,0,none⟩ (.int .i64 (1))).setCell ⟨q1,1,none⟩ (.string sg)).setCell ⟨q1,2,none⟩ (.string sn)).setCell ⟨q1,3,none⟩ (.bool false)):=
      ((((ai.refl [q1] Wt).setCell (.inl (by simp)) _).setCell (.inl (by simp)) _).setCell (.inl (by simp)) _).setCell (.inl (by simp)) _
     have hfin:=af (jD hT.out iW hq.out Ik.out);have hpe:=af hT.out.pe;change Hid _ at hset;clear e0 e1 e2 e3 e4 e5 e6 e7 e8 e9 iW;go_wp2_with fail
     obtain⟨f0,f1,f2,f3⟩:=fC hset.out;refine bodyPost_ret (v:=.agg #[.int .i64 (1),.string sg,.string sn,.bool false]) (by simp[results,Tryz.results9,go_sem,f0,f1,f2,f3];try rfl) rfl ?_;rw[heq.out];exact⟨rfl,_,hfin.out.1,rfl,(by first|rfl|exact hpe.out),hfin.out.2⟩
    have cc:=sW K.p b ⟨at',t,x,qos,ret,⟨sk,sg,sn,sd⟩,aK nd.blk,rc,sg,sn,false⟩ Wa iy.en h1c;have gu:=hR.out;rw[if_neg h1c]at gu;replace hR:=af gu;replace cc:=af cc;have hT:=af iy;have hV:=af kZ;have hSt:=af mU;clear iy mU kZ gu vD;refine cc.out.mono ?_;rintro e Vn ⟨rfl,rfl⟩;clear cc;generalize Wa=Vq at*;go_wp2_with fail
    rw[rounds_succ];have c5:Vq.cell? ⟨st,5,none⟩=some (.func (.func 58) #[aK K.p] #[]):=cell_of_row _ st 5 _ _ _ hSt.out;go_wp2_with fail
    have EB:=(ai.refl [] Vq).alloc (.cells #[.func (.func 58) #[aK K.p] #[]] 85);have iy:=hT.out.nil' EB;have mU:=EB.heap hSt.out (by simp);have kZ:=EB.heap hV.out (by simp);have hla:=EB.size;clear c5 hT hSt hV;generalize(Vq.alloc (.cells #[.func (.func 58) #[aK K.p] #[]] 85))=Wa at*;by_cases h3c:rc<3
    ·have gu:=hR.out
     rw[if_pos h3c]at gu;have cc:=S9 K9 b ⟨at',t,x,qos,ret,⟨sk,sg,sn,sd⟩,aK nd.blk,rc,sg,sn,false⟩ Wa iy.en h3c;rw[show aK K9.p=aK K.p by rw[Jm.2.2.2,Ri]]at cc;change Hid _ at kZ gu;replace cc:=af cc;replace iy:=af iy;clear mU hR;refine cc.out.mono ?_;rintro e Wt ⟨rfl,EF⟩;have hT:=af (iy.out.nil' EF);have hV:=af (EF.heap kZ.out (by simp));have heq:R=(⟨rc,sg,sn,false⟩,K9.sp):=by
      rw[<-gu.out,UO]
     change Hid _ at heq;clear cc EF iy kZ;obtain⟨e0,e1,e2,e3,e4,e5,e6,e7,e8,e9,e10,e11,e12,e13⟩:=bE hT.out.en;obtain⟨v0,v1,v2,v3⟩:=fC hV.out;obtain⟨z0,z1,z2,z3,_⟩:=UX hV.out;have hset:=Ar hV.out (.int .i64 (rc)) (.string sg) (.string sn) (.bool false);have iW:ai [q1] Wt ((((Wt.setCell ⟨q1,0,none⟩ (.int .i64 (rc))).setCell ⟨q1,1,none⟩ (.string sg)).setCell ⟨q1,2,none⟩ (.string sn)).setCell ⟨q1,3,none⟩ (.bool false)):=
      ((((ai.refl [q1] Wt).setCell (.inl (by simp)) _).setCell (.inl (by simp)) _).setCell (.inl (by simp)) _).setCell (.inl (by simp)) _
     have hfin:=af (jD hT.out iW hq.out Ik.out);have hpe:=af hT.out.pe;change Hid _ at hset;clear e0 e1 e2 e3 e4 e5 e6 e7 e8 e9 iW;go_wp2_with fail
     obtain⟨f0,f1,f2,f3⟩:=fC hset.out;refine bodyPost_ret (v:=.agg #[.int .i64 (rc),.string sg,.string sn,.bool false]) (by simp[results,Tryz.results9,go_sem,f0,f1,f2,f3];try rfl) rfl ?_;rw[heq.out];exact⟨rfl,K9,hfin.out.1,rfl,(by first|rfl|exact hpe.out),hfin.out.2⟩
    have gu:=hR.out;rw[if_neg h3c]at gu;have hae:K9.asked=K.asked:=Jm.2.2.1.trans hb9.2.2;have hre:K9.ra=S1.ra:=Jm.2.1.trans (hb9.2.1.trans hkr.symm);have acC:K9.asked=S1.asked:=hae.trans hka.symm;have cc:=Ta K9 b ⟨at',t,x,qos,ret,⟨sk,sg,sn,sd⟩,aK nd.blk,rc,sg,sn,false⟩ Wa iy.sk iy.en iy.ap (by show(3:Int)<=rc;omega) rfl (by rw[hae];exact Z5) hsg hsn;unfold Ad at cc;simp only at cc;rw[show aK K9.p=aK K.p by rw[Jm.2.2.2,Ri],hre]at cc;generalize oC S1.ra 10 (bW sg sn) at'=may at*;generalize rU S1.ra 10 (bW sg sn) at'=lr at*;change Hid _ at kZ gu;replace cc:=af cc;replace iy:=af iy;clear mU hR;refine cc.out.mono ?_;rintro e Wt ⟨rfl,UQ,B11,aah,EF,XE⟩;have Q8:ai (b::K9.feet) Wa Wt:=EF.mono (by intro z hz;rcases List.mem_cons.1 hz with rfl|hz;exact List.mem_cons_self;rcases List.mem_cons.1 hz with rfl|hz;exact List.mem_cons_of_mem _ K9.p_mem;exact List.mem_cons_of_mem _ (K9.r_mem z hz));have hT:=af (iy.out.step aah UQ Q8 XE rfl);have hV:=af (Q8.heap kZ.out (by simp only[List.mem_cons,not_or];exact⟨Jr.out.1,hq.out⟩));replace hq:=af (qW hq.out (aj kZ.out) XE);have heq:R=(⟨rc,sg,sn,may⟩,aU.sp {K9 with RB:=B11,ra:=lr,asked:=K9.asked+if may then 1 else 0}):=by
     rw[<-gu.out];have e1:aU.sp {K9 with RB:=B11,ra:=lr,asked:=K9.asked+if may then 1 else 0}={K9.sp with ra:=lr,asked:=K9.asked+if may then 1 else 0}:=rfl;rw[e1,UO,acC]
    change Hid _ at heq;clear cc aah UQ EF Q8 XE iy kZ;obtain⟨e0,e1,e2,e3,e4,e5,e6,e7,e8,e9,e10,e11,e12,e13⟩:=bE hT.out.en;obtain⟨v0,v1,v2,v3⟩:=fC hV.out;obtain⟨z0,z1,z2,z3,_⟩:=UX hV.out;have hset:=Ar hV.out (.int .i64 (rc)) (.string sg) (.string sn) (.bool may);have iW:ai [q1] Wt ((((Wt.setCell ⟨q1,0,none⟩ (.int .i64 (rc))).setCell ⟨q1,1,none⟩ (.string sg)).setCell ⟨q1,2,none⟩ (.string sn)).setCell ⟨q1,3,none⟩ (.bool may)):=
     ((((ai.refl [q1] Wt).setCell (.inl (by simp)) _).setCell (.inl (by simp)) _).setCell (.inl (by simp)) _).setCell (.inl (by simp)) _
    have hfin:=af (jD hT.out iW hq.out Ik.out);have hpe:=af hT.out.pe;change Hid _ at hset;clear e0 e1 e2 e3 e4 e5 e6 e7 e8 e9 iW;go_wp2_with fail
    obtain⟨f0,f1,f2,f3⟩:=fC hset.out;refine bodyPost_ret (v:=.agg #[.int .i64 (rc),.string sg,.string sn,.bool may]) (by simp[results,Tryz.results9,go_sem,f0,f1,f2,f3];try rfl) rfl ?_;rw[heq.out];exact⟨rfl,_,hfin.out.1,rfl,(by first|rfl|exact hpe.out),hfin.out.2⟩
theorem vz{α:Type}{k:Rk}{v:α}{q:Rk×α}: ∀{l:List (Rk×α)},q∈bZ l k v->q=(k,v)\/q∈l
 | [],h=>by unfold bZ at h;exact .inl (by simpa using h)
 |p::r,h=>by
  unfold bZ at h;split at h
  ·rcases List.mem_cons.1 h with h|h
   ·exact .inl h
   ·exact .inr (List.mem_cons_of_mem _ h)
  ·rcases List.mem_cons.1 h with h|h
   ·exact .inr (by rw[h];exact List.mem_cons_self)
   ·exact(vz h).imp id (List.mem_cons_of_mem _)
theorem oL{α:Type}{k:Rk}{v:α}: ∀{l:List (Rk×α)},k∈l.map (·.1)->(bZ l k v).map (·.1)=l.map (·.1)
 | [],h=>by simp at h
 |p::r,h=>by
  unfold bZ;split
  ·rename_i hp
   have:p.1=k:=LawfulBEq.eq_of_beq hp;simp[this]
  ·rename_i hp
   have hk:k∈r.map (·.1):=by
    rcases List.mem_cons.1 h with h|h
    ·subst h;simp at hp
    ·exact h
   simp[oL hk]
theorem LJ{α:Type}{l:List (Rk×α)}{k:Rk}{v:α}(h:aS l k=some v):(k,v)∈l:=by
 unfold aS at h;obtain⟨p,hp,rfl⟩:=Option.map_eq_some_iff.1 h;have h1:=List.find?_some hp;have h2:p.1=k:=LawfulBEq.eq_of_beq h1;have:=List.mem_of_find?_eq_some hp;rw[<-h2];exact this
theorem yD{α:Type}{l:List (Rk×α)}{k:Rk}(h:aS l k=none):k∉l.map (·.1):=by
 unfold aS at h;rw[Option.map_eq_none_iff,List.find?_eq_none]at h;intro hk;obtain⟨p,hp,e⟩:=List.mem_map.1 hk;exact h p hp (by rw[e];simp)
theorem LP(k:Rk):KE k k=true:=by unfold KE;simp
theorem Ef{L:List Bi}(h:fK L)(t x:ByteArray):fK (xS t x L).2:=by
 unfold xS;have hK:=oK h (jf t).1;have hne: ∀y∈dF (jf t).1 L,y.rk≠(jf t).1:=fun y hy e=>by
  have:=(List.mem_filter.1 hy).2;unfold qZ at this;rw[show(y.k0,y.k1)=(jf t).1 from e,LP]at this;cases this
 split
 ·exact h
 split
 ·exact hK
 ·generalize hk:(jf t).1=k at*
  generalize dF k L=A at*;have hpos:=xR (k:=k) hK;have hle:=Bg k A;have h1: ∀a∈A.take (tQ k A),dU a.rk k:=fun a ha=>by
   obtain⟨i,hi,rfl⟩:=List.mem_iff_getElem.1 ha;rw[List.length_take]at hi;rw[List.getElem_take];exact(tN _ _).1 ((hpos i (by omega)).2 (by omega))
  have h2: ∀a∈A.drop (tQ k A),dU k a.rk:=fun a ha=>by
   have ham:=List.mem_of_mem_drop ha;obtain⟨i,hi,rfl⟩:=List.mem_iff_getElem.1 ha;rw[List.length_drop]at hi;rw[List.getElem_drop]at ham⊢;have hn: ¬dU A[tQ k A+i].rk k:=fun hx=>by
    have:=(hpos _ (by omega)).1 ((tN _ _).2 hx);omega
   by_cases hx:dU k A[tQ k A+i].rk
   ·exact hx
   ·exact absurd (oJ hn hx) (hne _ ham)
  unfold fK;rw[List.append_assoc,List.pairwise_append,List.singleton_append,List.pairwise_cons];refine⟨hK.sublist (List.take_sublist _ _),⟨h2,hK.sublist (List.drop_sublist _ _)⟩,fun a ha b hb=>?_⟩;rcases List.mem_cons.1 hb with rfl|hb
  ·exact h1 a ha
  ·exact kg (h1 a ha) (h2 b hb)
theorem Qi(L:List Bi)(t x:ByteArray):(xS t x L).2.length<=L.length+1:=by
 unfold xS;have:=nO (jf t).1 L;split
 ·simp
 split
 ·simp;omega
 ·simp only[List.length_append,List.length_take,List.length_drop,List.length_singleton]
  omega
theorem LQ{L:List Bi}(h:fK L)(s:kH)(t x:ByteArray):fK (nW s t x L)/\(nW s t x L).length<=L.length+1:=by
 have hd: ∀u,fK (xU u L)/\(xU u L).length<=L.length+1:=fun u=>by
  unfold xU;split
  ·exact⟨h,by omega⟩
  ·exact⟨oK h _,by have:=nO (jf u).1 L;omega⟩
 unfold nW;split
 ·exact⟨Ef h t x,Qi L t x⟩
 split
 ·exact hd _
 split
 ·exact hd _
 ·exact⟨h,by omega⟩
theorem LU{s:EN}(h:mM s)(k:Int)(d x:ByteArray):mM (jL s k d x).2:=by
 unfold jL;split
 ·exact h
 ·exact Ll h _ _ _
structure jT (n:Nat) (S:SP):Prop where
 bs:fK S.bi
 few:S.bi.length<=n
 ei: ∀p∈S.nodes,mM p.2
 gk: ∀p∈S.nodes,p.1.1.toList.isEmpty=false/\p.1.2.toList.isEmpty=false
 nd:(S.nodes.map (·.1)).Nodup
 n8:S.nodes.length<=8
 ra: ∀k∈S.ra.map (·.1),∃q∈S.nodes.map (·.1),k=bW q.1 q.2
 rn:(S.ra.map (·.1)).Nodup
 ask:0<=S.asked/\S.asked<=n
theorem LV:jT 0 ⟨[],[],[],[],0⟩:=⟨List.Pairwise.nil,by simp,by simp,by simp,by simp,by simp,by simp,by simp,by simp⟩
theorem vQ{S:SP}{k:Rk}{p:SP×EN}(h:jC S k=some p):(aS S.nodes k=some p.2/\p.1=S)\/(aS S.nodes k=none/\(k.1.toList.isEmpty=false/\k.2.toList.isEmpty=false/\S.nodes.length<8)/\p=({S with nodes:=S.nodes++[(k,yx)]},yx)):=by
 unfold jC at h;split at h
 ·rename_i e he
  cases h;exact .inl ⟨he,rfl⟩
 ·rename_i he
  split at h
  ·cases h
  ·rename_i hn
   simp only[not_or,Bool.not_eq_true,Nat.not_le]at hn;cases h;exact .inr ⟨he,hn,rfl⟩
theorem vR{n:Nat}{S:SP}{k:Rk}{p:SP×EN}(H:jT n S)(h:jC S k=some p):jT n p.1/\(k,p.2)∈p.1.nodes:=by
 rcases vQ h with⟨h1,h2⟩|⟨h1,⟨h2,h3,h4⟩,rfl⟩
 ·rw[h2]
  exact⟨H,LJ h1⟩
 ·refine⟨⟨H.bs,H.few,fun q hq=>?_,fun q hq=>?_,?_,by simp;omega,fun q hq=>?_,H.rn,H.ask⟩,by simp⟩
  ·rcases List.mem_append.1 hq with hq|hq
   ·exact H.ei q hq
   ·rw[List.mem_singleton]at hq;subst hq;exact Po
  ·rcases List.mem_append.1 hq with hq|hq
   ·exact H.gk q hq
   ·rw[List.mem_singleton]at hq;subst hq;exact⟨h2,h3⟩
  ·rw[List.map_append,List.nodup_append]
   exact⟨H.nd,by simp,fun a ha b hb e=>by simp at hb;subst hb;subst e;exact yD h1 ha⟩
  ·obtain⟨y,hy,e⟩:=H.ra q hq
   exact⟨y,by simp only[List.map_append];exact List.mem_append_left _ hy,e⟩
theorem Qj{l:gN}{k:ByteArray}{q:ByteArray×Int}(h:q∈fD l k):q∈l/\q.1≠k:=by
 unfold fD at h;obtain⟨h1,h2⟩:=List.mem_filter.1 h;exact⟨h1,by simpa using h2⟩
theorem LW{l:gN}{k:ByteArray}{t:Int}{q:ByteArray}(h:q∈(rU l 10 k t).map (·.1)):q=k\/q∈l.map (·.1):=by
 unfold rU at h;split at h
 ·rw[List.map_cons]at h
  rcases List.mem_cons.1 h with h|h
  ·exact .inl h
  ·obtain⟨y,hy,e⟩:=List.mem_map.1 h
   exact .inr (List.mem_map.2 ⟨y,(Qj hy).1,e⟩)
 ·exact .inr h
theorem G7{l:gN}(hn:(l.map (·.1)).Nodup)(k:ByteArray)(t:Int):((rU l 10 k t).map (·.1)).Nodup:=by
 unfold rU;split
 ·rw[List.map_cons,List.nodup_cons]
  exact⟨(rV hn k).2,(rV hn k).1⟩
 ·exact hn
theorem jT.up{n:Nat}{S:SP}(H:jT n S):jT (n+1) S:=⟨H.bs,by have:=H.few;omega,H.ei,H.gk,H.nd,H.n8,H.ra,H.rn,H.ask.1,by have:=H.ask.2;omega⟩
theorem jT.node{n:Nat}{S:SP}{k:Rk}{e e':EN}(H:jT n S)(hk:(k,e)∈S.nodes)(he:mM e'):jT n {S with nodes:=bZ S.nodes k e'}:=by
 have hkm:k∈S.nodes.map (·.1):=List.mem_map.2 ⟨_,hk,rfl⟩;have hkeys:=oL (v:=e') hkm;refine⟨H.bs,H.few,fun q hq=>?_,fun q hq=>?_,?_,?_,?_,H.rn,H.ask⟩
 ·rcases vz hq with rfl|hq
  ·exact he
  ·exact H.ei q hq
 ·rcases vz hq with rfl|hq
  ·exact H.gk (k,e) hk
  ·exact H.gk q hq
 ·show((bZ S.nodes k e').map (·.1)).Nodup
  rw[hkeys];exact H.nd
 ·have:=congrArg List.length hkeys
  simp only[List.length_map]at this;show(bZ S.nodes k e').length<=8;rw[this];exact H.n8
 ·show∀q∈S.ra.map (·.1),∃y∈(bZ S.nodes k e').map (·.1),q=bW y.1 y.2
  rw[hkeys];exact H.ra
theorem Eg{n:Nat}{S:SP}{s:kH}{at':Int}{t x:ByteArray}{e:EN}(H:jT n S)(hk:((s.g,s.n),e)∈S.nodes):jT (n+1) (vw S s at' t x e).2:=by
 have he:=LU (H.ei _ hk) s.k s.d x;have H2:=H.node hk he;have hkm:(s.g,s.n)∈(bZ S.nodes (s.g,s.n) (jL e s.k s.d x).2).map (·.1):=by
  rw[oL (List.mem_map.2 ⟨_,hk,rfl⟩)];exact List.mem_map.2 ⟨_,hk,rfl⟩
 unfold vw;split
 ·have h3:=LQ H.bs s t x
  exact⟨h3.1,by have:=H.few;have:=h3.2;show(nW s t x S.bi).length<=n+1;omega,H2.ei,H2.gk,H2.nd,H2.n8,H2.ra,H2.rn,H2.ask.1,by have:=H2.ask.2;show S.asked<=((n+1:Nat):Int);simp at this;omega⟩
 split
 ·exact H2.up
 ·have h4:=H2.up
  refine⟨h4.bs,h4.few,h4.ei,h4.gk,h4.nd,h4.n8,fun q hq=>?_,G7 H.rn _ _,?_⟩
  ·rcases LW hq with rfl|hq
   ·exact⟨(s.g,s.n),hkm,rfl⟩
   ·exact H2.ra q hq
  ·have:=H.ask
   show 0<=S.asked+_/\S.asked+_<=((n+1:Nat):Int);split<;>omega
theorem vS{n:Nat}{S:SP}(H:jT n S)(at':Int)(t x:ByteArray):jT (n+1) (dK S at' t x).2:=by
 unfold dK;split
 ·exact H.up
 split
 ·exact⟨H.up.bs,H.up.few,H.ei,H.gk,H.nd,H.n8,H.ra,H.rn,H.up.ask⟩
 ·split
  ·exact H.up
  ·rename_i p hp
   obtain⟨h1,h2⟩:=vR H hp;exact Eg h1 h2
theorem Ah{α:Type}[DecidableEq α]: ∀{l l':List α},l.Nodup->(∀x∈l,x∈l')->l.length<=l'.length
 | [],l',_,_=>Nat.zero_le _
 |x::r,l',h,hs=>by
  rw[List.nodup_cons]at h;have hx:=hs x List.mem_cons_self;have:=Ah (l:=r) (l':=l'.erase x) h.2 (fun y hy=>by
   rw[List.mem_erase_of_ne (fun e=>h.1 (by rw[<-e];exact hy))];exact hs y (List.mem_cons_of_mem _ hy))
  rw[List.length_erase_of_mem hx]at this;have h0:0<l'.length:=List.length_pos_of_mem hx;simp only[List.length_cons];omega
def Ei(T:gN)(k:ByteArray)(now:Int):Bool:=match aS T k with
 |none=>true
 |some t=>decide (10<=now-t)
def nX(v:Vd):Bool:=decide (3<=v.code)&& !(v.g==aG)
def Wi(S:SP)(v:Vd):Bool:=decide ((v.g,v.n)∈S.nodes.map (·.1))
theorem Mf{S:SP}{k:Rk}{p:SP×EN}(h:jC S k=some p):p.1.ra=S.ra:=by
 rcases vQ h with⟨_,h2⟩|⟨_,_,rfl⟩
 ·rw[h2]
 ·rfl
structure Qp (n:Nat) (S:SP) (T:gN):Prop where
 inv:jT n S
 same: ∀k,aS S.ra k=aS T k
theorem Ht{κ α:Type}[BEq κ][LawfulBEq κ][DecidableEq κ](l:List (κ×α))(k j:κ)(v:α):aS (bZ l k v) j=if j=k then some v else aS l j:=by
 induction l with
 |nil=>
  by_cases h:j=k
  ·subst h;simp[bZ,aS]
  ·have h2: ¬k=j:=fun e=>h e.symm
   simp[bZ,aS,h,h2]
 |cons p r ih=>
  unfold bZ;by_cases hk:p.1==k
  ·have hp:p.1=k:=by simpa using hk
   rw[if_pos hk];by_cases h:j=k
   ·subst h;simp[aS]
   ·have h2: ¬k=j:=fun e=>h e.symm
    simp[aS,hp,h,h2]
  ·rw[if_neg hk]
   have hp: ¬p.1=k:=by simpa using hk
   by_cases hj:p.1=j
   ·have h: ¬j=k:=fun e=>hp (hj.trans e)
    simp[aS,hj,h]
   ·have e1:aS (p::bZ r k v) j=aS (bZ r k v) j:=by simp[aS,hj]
    have e2:aS (p::r) j=aS r j:=by simp[aS,hj]
    rw[e1,e2,ih]
theorem Hu(l:gN){k k':ByteArray}(h:k≠k'):aS (fD l k) k'=aS l k':=by
 induction l with
 |nil=>rfl
 |cons p r ih=>
  unfold fD at ih⊢;by_cases hp:p.1=k
  ·have h1:(!(p.1==k))=false:=by simp[hp]
   rw[List.filter_cons,if_neg (by simp[h1]),ih];unfold aS;rw[List.find?_cons_of_neg (by simpa[hp]using h)]
  ·have h1:(!(p.1==k))=true:=by simpa using hp
   rw[List.filter_cons,if_pos h1];unfold aS at ih⊢;by_cases hp2:p.1=k'
   ·rw[List.find?_cons_of_pos (by simpa using hp2),List.find?_cons_of_pos (by simpa using hp2)]
   ·rw[List.find?_cons_of_neg (by simpa using hp2),List.find?_cons_of_neg (by simpa using hp2)];exact ih
theorem Mg{l:gN}{k:ByteArray}{t:Int}(h:oC l 10 k t=true)(q:ByteArray):aS (rU l 10 k t) q=if q=k then some t else aS l q:=by
 unfold rU;rw[if_pos h];by_cases hq:q=k
 ·subst hq;simp[aS]
 ·rw[if_neg hq,<-Hu l (k:=k) (k':=q) (fun e=>hq e.symm)]
  unfold aS;rw[List.find?_cons_of_neg (by simpa using fun e=>hq e.symm)]
theorem Tc{n:Nat}{S:SP}{T:gN}(R:Qp n S T)(now:Int)(hn:0<=now/\now<=1073741824)(t x:ByteArray):
  (dK S now t x).1.ask=(nX (dK S now t x).1&&Wi (dK S now t x).2 (dK S now t x).1&&Ei T (bW (dK S now t x).1.g (dK S now t x).1.n) now)/\
  Qp (n+1) (dK S now t x).2 (if(dK S now t x).1.ask=true then bZ T (bW (dK S now t x).1.g (dK S now t x).1.n) now else T):=by
 have hI:=vS R.inv now t x;have stay: ∀(v:Vd) (S':SP),v.ask=false->jT (n+1) S'->S'.ra=S.ra->(nX v=false\/Wi S' v=false)->v.ask=(nX v&&Wi S' v&&Ei T (bW v.g v.n) now)/\Qp (n+1) S' (if v.ask=true then bZ T (bW v.g v.n) now else T):=fun v S' h1 h2 h3 h4=>by
  rw[h1];refine⟨?_,by rw[if_neg (by simp)];exact⟨h2,fun k=>by rw[h3];exact R.same k⟩⟩;rcases h4 with h4|h4<;>simp[h4]
 generalize hV:dK S now t x=V at hI⊢;unfold dK at hV;split at hV
 ·subst hV
  exact stay _ _ rfl hI rfl (.inl (by simp[nX]))
 split at hV
 ·subst hV
  exact stay _ _ rfl hI rfl (.inl (by simp[nX]))
 ·split at hV
  ·rename_i hk
   subst hV;refine stay _ _ rfl hI rfl ?_;unfold jC at hk;split at hk
   ·cases hk
   ·rename_i hg
    right
    unfold Wi;simpa using yD hg
  ·rename_i p hp
   obtain⟨hI1,hm⟩:=vR R.inv hp;have hra:=(Mf hp);generalize jP t=s at*;unfold vw at hV;split at hV
   ·subst hV
    exact stay _ _ rfl hI hra (.inl (by simp[nX]))
   split at hV
   ·rename_i h3
    subst hV;refine stay _ _ rfl hI hra (.inl ?_);have: ¬(3<=(jL p.2 s.k s.d x).1):=by omega
    simp[nX,this]
   ·rename_i h3
    have h3':3<=(jL p.2 s.k s.d x).1:=by omega
    have hgk:=hI1.gk _ hm;have hgn:(s.g==aG)=false:=by
     rw[beq_eq_false_iff_ne];intro e;have:=hgk.1;simp only at this;rw[e]at this;rw[show aG.toList=[]by rw[Lib.toList_data];rfl]at this;simp at this
    have hkn:(s.g,s.n)∈(bZ p.1.nodes (s.g,s.n) (jL p.2 s.k s.d x).2).map (·.1):=by
     rw[oL (List.mem_map.2 ⟨_,hm,rfl⟩)];exact List.mem_map.2 ⟨_,hm,rfl⟩
    have hmay:oC p.1.ra 10 (bW s.g s.n) now=Ei T (bW s.g s.n) now:=by
     unfold oC Ei;rw[<-R.same,<-hra];have ht:pQ now=true:=by unfold pQ;simp[hn.1,hn.2]
     rw[ht,Bool.true_and];cases hg:aS p.1.ra (bW s.g s.n)with
     |some t=>rfl
     |none=>
      simp only[decide_eq_true_eq];have hno:bW s.g s.n∉p.1.ra.map (·.1):=fun hx=>by
       obtain⟨q,hq,e⟩:=List.mem_map.1 hx;exact(dL _ _).1 hg q hq e
      have h1:(bW s.g s.n::p.1.ra.map (·.1)).Nodup:=List.nodup_cons.2 ⟨hno,hI1.rn⟩;have h2:=Ah (l':=(p.1.nodes.map (·.1)).map fun q=>bW q.1 q.2) h1 (fun y hy=>by
       rcases List.mem_cons.1 hy with rfl|hy
       ·exact List.mem_map.2 ⟨(s.g,s.n),List.mem_map.2 ⟨_,hm,rfl⟩,rfl⟩
       ·obtain⟨q,hq,e⟩:=hI1.ra y hy
        exact List.mem_map.2 ⟨q,hq,e.symm⟩)
      have:=hI1.n8;simp at h2;omega
    subst hV;refine⟨?_,hI,fun k=>?_⟩
    ·show oC p.1.ra 10 (bW s.g s.n) now=_
     rw[hmay];unfold nX Wi;simp only[h3',hgn,hkn,decide_true,Bool.not_false,Bool.and_true,Bool.true_and]
    ·show aS (rU p.1.ra 10 (bW s.g s.n) now) k=aS (if oC p.1.ra 10 (bW s.g s.n) now=true then bZ T (bW s.g s.n) now else T) k
     by_cases hm':oC p.1.ra 10 (bW s.g s.n) now=true
     ·rw[Mg hm',if_pos hm',Ht,hra,R.same]
     ·have e1:rU p.1.ra 10 (bW s.g s.n) now=p.1.ra:=by unfold rU;rw[if_neg hm']
      rw[if_neg hm',e1,hra,R.same]
structure Ji (W0 w:World) (n:Nat) (K:aU):Prop where
 sk:bq w K
 inv:jT n K.sp
 own:ai [] W0 w
 ft: ∀z∈K.feet,W0.heap.size<=z
theorem Ji.nil'{W0 w w':World}{n:Nat}{K:aU}(H:Ji W0 w n K)(ho:ai [] w w'):Ji W0 w' n K:=⟨H.sk.nil' ho,H.inv,H.own.trans ho,H.ft⟩
theorem Ji.ow{S:List Nat}{W0 w w':World}{n:Nat}{K:aU}(H:Ji W0 w n K)(ho:ai S w w')(h1: ∀z∈K.feet,z∉S)(h2: ∀z∈S,W0.heap.size<=z):Ji W0 w' n K:=⟨H.sk.own ho h1,H.inv,H.own.trans' ho (fun z hz=>.inr (h2 z hz)),H.ft⟩
theorem Ji.lt{W0 w:World}{n:Nat}{K:aU}(H:Ji W0 w n K): ∀z∈K.feet,W0.heap.size<=z/\z<w.heap.size:=fun z hz=>⟨H.ft z hz,H.sk.lt z hz⟩
def Vf(v:Vd):Value:=.agg #[.int .i64 v.code,.string v.g,.string v.n,.bool v.ask]
theorem Wh(W0 w:World)(ho:ai [] W0 w):Calls Tryz.prog 8 #[] w fun e w'=> ∃K:aU,e=.returned (aK K.p)/\Ji W0 w' 0 K/\K.sp=YD/\ai [] w w'/\ ∀z∈K.feet,w.heap.size<=z:=
 (Me w).mono fun e w' ⟨K,h1,h2,h3,h4,h5⟩=>⟨K,h1,⟨h2,by rw[h3];exact LV,ho.trans h4,fun z hz=>Nat.le_trans ho.size (h5 z hz)⟩,h3,h4,h5⟩
theorem Hr(W0 w:World)(n:Nat)(K:aU)(at':Int)(t x:ByteArray)(qos:Int)(ret:Bool)(H:Ji W0 w n K)(hL:qx W0)(ht:t.size<=1048576)(hx:x.size<=1500)(hn:n<40):
  Calls Tryz.prog 9 #[aK K.p,.int .i64 at',.agg #[.string t,.string x,.int .i64 qos,.bool ret]] w fun e w'=>e=.returned (Vf (dK K.sp at' t x).1)/\ ∃K':aU,Ji W0 w' (n+1) K'/\K'.sp=(dK K.sp at' t x).2/\K'.p=K.p/\ai K.feet w w'/\ ∀z∈K'.feet,z∈K.feet\/w.heap.size<=z:=by
 have hk:=vS H.inv at' t x;refine(He W0 w K at' t x qos ret H.sk hL H.own H.ft ht (by omega) (by have:K.asked<=(n:Int):=H.inv.ask.2;omega) H.inv.bs (fun y hy=>(H.inv.ei (y.key,y.s) (List.mem_map.2 ⟨y,hy,rfl⟩)).1) (by have:=hk.few;omega)).mono ?_;rintro e w' ⟨h1,K',h2,h3,h4,h5,h6⟩;have hsz:=H.own.size;refine⟨h1,K',⟨h2,by rw[h3];exact hk,H.own.trans' h5 (fun z hz=>.inr (H.ft z hz)),fun z hz=>?_⟩,h3,h4,h5,h6⟩;rcases h6 z hz with h7|h7
 ·exact H.ft z h7
 ·omega
structure Ej where
 topic:ByteArray
 text:ByteArray
 qos:Int
 ret:Bool
def Ej.cells(m:Ej):List Value:=[.string m.topic,.string m.text,.int .i64 m.qos,.bool m.ret]
def Qq(w:World)(a:Option Addr)(n:Nat)(ms:Nat->Ej):Prop:=
 n<=maxLen/\(0<n-> ∃b o,a=some ⟨b,o,none⟩/\b<w.heap.size/\ ∀i,i<n->(ms i).topic.size<=1048576/\ ∀j v,(ms i).cells[j]?=some v->w.cell? ⟨b,o+i*4+j,none⟩=some v)
theorem Qq.at'{w w':World}{a:Option Addr}{n:Nat}{ms:Nat->Ej}(h:Qq w a n ms)(ho:ai [] w w'){k:Nat}(hk:k<n): ∃b o,a=some ⟨b,o,none⟩/\(ms k).topic.size<=1048576/\b<w.heap.size/\ ∀W,ai [] w W->(W.cell? ⟨b,o+k*4,none⟩=some (.string (ms k).topic)/\W.cell? ⟨b,o+k*4+1,none⟩=some (.string (ms k).text)/\W.cell? ⟨b,o+k*4+2,none⟩=some (.int .i64 (ms k).qos)/\W.cell? ⟨b,o+k*4+3,none⟩=some (.bool (ms k).ret)):=by
 obtain⟨b,o,rfl,hb,hx⟩:=h.2 (by omega);obtain⟨h1,h2⟩:=hx k hk;exact⟨b,o,rfl,h1,hb,fun W ho=>⟨(ho.cell (p:=⟨b,o+k*4,none⟩) hb (by simp)).trans (h2 0 _ rfl),(ho.cell (p:=⟨b,o+k*4+1,none⟩) hb (by simp)).trans (h2 1 _ rfl),(ho.cell (p:=⟨b,o+k*4+2,none⟩) hb (by simp)).trans (h2 2 _ rfl),(ho.cell (p:=⟨b,o+k*4+3,none⟩) hb (by simp)).trans (h2 3 _ rfl)⟩⟩
theorem Qr{w:World}{g cap i:Nat}{L:List Int}(h:qD 3 iL 1 w g cap L)(hi:i<L.length)(x:Int):qD 3 iL 1 (w.setCell ⟨g,i,none⟩ (.int .i64 x)) g cap (L.set i x)/\ai [g] w (w.setCell ⟨g,i,none⟩ (.int .i64 x)):=by
 obtain⟨cur,hb,h1,h2,h3,h4⟩:=h;have hr: ∀l:List Int,aC iL l=l.map fun z=>Value.int .i64 z:=fun l=>by
  unfold aC iL;induction l with
  |nil=>rfl
  |cons y r ih=>simp only[List.flatMap_cons,List.map_cons,List.singleton_append,ih]
 refine⟨⟨cur.setIfInBounds i (.int .i64 x),heap_setCell_same _ _ _ _ _ _ hb,by simpa using h1,h2,by simpa using h3,?_⟩,(ai.refl _ _).setCell (.inl (by simp)) _⟩;rw[hr]at h4⊢;simp only[Nat.mul_one,List.length_set,Array.toList_setIfInBounds,List.map_set]at h4⊢;rw[List.take_set,h4]
structure oM (w0 wr:World) (n:Nat) (K:aU) (A:List ByteArray) (B:List Int) (v7 v8:Value):Prop where
 sk:Ji w0 wr n K
 who:Sl 9 BM 1 w0.heap.size wr v7 A
 wen:Sl 3 iL 1 w0.heap.size wr v8 B
 a7: ∀b,v7.ownBlock=some b->b∉K.feet
 a8: ∀b,v8.ownBlock=some b->b∉K.feet
 a78: ∀b,v7.ownBlock=some b->v8.ownBlock≠some b
section
variable {w0 wr w2 : World} {n m : Nat} {K K' : aU} {A : List ByteArray} {B : List Int} {v7 v8 v' : Value}
theorem oM.nil'(H:oM w0 wr n K A B v7 v8)(ho:ai [] wr w2):oM w0 w2 n K A B v7 v8:=⟨H.sk.nil' ho,H.who.nil' ho,H.wen.nil' ho,H.a7,H.a8,H.a78⟩
theorem oM.take(H:oM w0 wr n K A B v7 v8)(hk:Ji w0 w2 m K')(ho:ai K.feet wr w2)(hf: ∀z∈K'.feet,z∈K.feet\/wr.heap.size<=z):oM w0 w2 m K' A B v7 v8:=
 ⟨hk,H.who.own ho H.a7,H.wen.own ho H.a8,fun b hb hx=>by
  rcases hf b hx with h1|h1
  ·exact H.a7 b hb h1
  ·have:=(H.who.block hb).2;omega,fun b hb hx=>by
  rcases hf b hx with h1|h1
  ·exact H.a8 b hb h1
  ·have:=(H.wen.block hb).2;omega,H.a78⟩
theorem oM.push7{A':List ByteArray}(H:oM w0 wr n K A B v7 v8)(hS:Sl 9 BM 1 w0.heap.size w2 v' A')(hg: ∀g,v'.ownBlock=some g->v7.ownBlock=some g\/wr.heap.size<=g)(ho:ai v7.ownBlock.toList wr w2):oM w0 w2 n K A' B v' v8:=by
 refine⟨H.sk.ow ho (fun z hz hx=>H.a7 z (Option.mem_toList.1 hx) hz) (fun z hz=>(H.who.block (Option.mem_toList.1 hz)).1),hS,H.wen.own ho (fun b hb hx=>H.a78 b (Option.mem_toList.1 hx) hb),fun b hb hx=>?_,H.a8,fun b hb hx=>?_⟩
 ·rcases hg b hb with h1|h1
  ·exact H.a7 b h1 hx
  ·have:=(H.sk.lt b hx).2;omega
 ·rcases hg b hb with h1|h1
  ·exact H.a78 b h1 hx
  ·have:=(H.wen.block hx).2;omega
theorem oM.push8{B':List Int}(H:oM w0 wr n K A B v7 v8)(hS:Sl 3 iL 1 w0.heap.size w2 v' B')(hg: ∀g,v'.ownBlock=some g->v8.ownBlock=some g\/wr.heap.size<=g)(ho:ai v8.ownBlock.toList wr w2):oM w0 w2 n K A B' v7 v':=by
 refine⟨H.sk.ow ho (fun z hz hx=>H.a8 z (Option.mem_toList.1 hx) hz) (fun z hz=>(H.wen.block (Option.mem_toList.1 hz)).1),H.who.own ho (fun b hb hx=>H.a78 b hb (Option.mem_toList.1 hx)),hS,H.a7,fun b hb hx=>?_,fun b hb hx=>?_⟩
 ·rcases hg b hb with h1|h1
  ·exact H.a8 b h1 hx
  ·have:=(H.sk.lt b hx).2;omega
 ·rcases hg b hx with h1|h1
  ·exact H.a78 b hb h1
  ·have:=(H.who.block hb).2;omega
theorem oM.set8(H:oM w0 wr n K A B v7 v8){i:Nat}(hi:i<B.length)(x:Int): ∃g cap,v8=.slice (some ⟨g,0,none⟩) B.length cap/\(wr.cell? ⟨g,i,none⟩=some (.int .i64 (B.getD i 0))/\wr.frozen? ⟨g,i,none⟩=false)/\ ∀w2,ai [] wr w2->oM w0 (w2.setCell ⟨g,i,none⟩ (.int .i64 x)) n K A (B.set i x) v7 v8:=by
 rcases H.wen.form with⟨_,h2⟩|⟨g,cap,rfl,h2,hR⟩
 ·rw[h2]at hi;simp at hi
 ·have hc:=hR.cell (fun _=>rfl) (i:=i) (c:=0) (List.getElem?_eq_getElem hi) (v:=.int .i64 B[i]) rfl
  simp only[Nat.mul_one,Nat.add_zero]at hc;refine⟨g,cap,rfl,⟨by rw[hc];simp[List.getD,hi],hR.frozen _⟩,fun w2 ho=>?_⟩;obtain⟨h3,h4⟩:=Qr (hR.own ho (by simp)) hi x;have h5:=(H.nil' ho);have hgK: ∀z∈K.feet,z∉[g]:=fun z hz hx=>by
   simp at hx;subst hx;exact H.a8 z rfl hz
  refine⟨h5.sk.ow h4 hgK (fun z hz=>by simp at hz;subst hz;exact h2),h5.who.own h4 (fun b hb hx=>by simp at hx;subst hx;exact H.a78 b hb rfl),?_,H.a7,H.a8,H.a78⟩;have:=Sl.of_row h3 (fun _=>rfl) h2;rwa[List.length_set]at this
theorem oM.key(H:oM w0 wr n K A B v7 v8){i:Nat}(hi:i<A.length): ∃g cap,v7=.slice (some ⟨g,0,none⟩) A.length cap/\ ∀W,ai [] wr W->W.cell? ⟨g,i,none⟩=some (.string (A.getD i ⟨#[]⟩)):=by
 rcases H.who.form with⟨_,h2⟩|⟨g,cap,rfl,h2,hR⟩
 ·rw[h2]at hi;simp at hi
 ·refine⟨g,cap,rfl,fun W ho=>?_⟩
  have hc:=(hR.own ho (by simp)).cell (fun _=>rfl) (i:=i) (c:=0) (List.getElem?_eq_getElem hi) (v:=.string A[i]) rfl;simp only[Nat.mul_one,Nat.add_zero]at hc;rw[hc];simp[List.getD,hi]
end
end Go.Proofs.YtedcakchekaemaaGreatDoor
namespace Go.Proofs.YtedcakchekaemaaGreatDoor
open Go.RowKit Go.Shelf Go.Lib Go.WideShapes
theorem Mj:Tryz.prog.globalNamed "errors.errorType" =some 4:=by kernel_rfl
theorem Wl:(Tryz.prog.cutTypes.find? (·.1== "internal/reflectlite.rtype")).map (·.2)=some 484:=by kernel_rfl
theorem Td:((List.range 577).filter fun t=>Tryz.prog.rowNamed t [101,114,114,111,114])=[331]:=by kernel_rfl
theorem YE:Tryz.prog.types.size=577:=by kernel_rfl
theorem Te{W:World}(h:laidMetH Tryz.prog kI W):jm W:=by
 have h':laidMet Tryz.prog (kI.filter fun x=>x.2.handleName?.isNone) W/\handlesMet Tryz.prog (kI.filter fun x=>x.2.handleName?.isSome) W:=h;obtain⟨name,u,ty,e1,e2,e3,e4,e5⟩:=h'.2 ("errors.errorType",Rows.laid_errors_errorType) (List.mem_filter.2 ⟨.tail _ (.head _),rfl⟩);have en:name=[101,114,114,111,114]:=(Option.some.inj e1).symm;subst en;obtain rfl:=Option.some.inj (Wl.symm.trans e2);have hm:ty∈(List.range 577).filter fun t=>Tryz.prog.rowNamed t [101,114,114,111,114]:=List.mem_filter.2 ⟨List.mem_range.2 (by rw[<-YE];exact e3),e4⟩
 rw[Td]at hm;obtain rfl:=List.mem_singleton.1 hm;have hh:typeHandle Tryz.prog 331=.pointer (some ⟨6,331,none⟩):=by kernel_rfl
 rw[hh]at e5;unfold jm;simpa using World.var?_cell Mj e5 0
theorem mP{P:Program}{w:World}{g n:Nat}{t e:TypeId}{zero:Array Value}{k:IntKind}(h:w.ShapedOpen P)(hg:g<P.globals.size)
  (h0:((begin P (fun _ _=>0) default).world.heap[g]?).bind Obj.row?=some (zero,t))(hz:zero.size=n)(hb:P.buildable t=true)(hc:P.cellTypes P.depth t=some (List.replicate n e))(hu:P.underlying e=some (.int k)):
  ∀i,i<n-> ∃m,w.cell? ⟨g,i,none⟩=some (.int k m):=by
 intro i hi;obtain⟨cs,hh,hs,hr⟩:=h.1 g zero t hg h0;obtain⟨ts,hts,_,hall⟩:=hr hb;rw[hc]at hts;cases hts;have h1:i<cs.size:=by omega
 obtain⟨u,hu',hok⟩:=hall i cs[i] (by simp[h1]);have:u=e:=by
  have:=List.mem_of_getElem? hu';exact(List.mem_replicate.1 this).2
 subst this;have hcell:w.cell? ⟨g,i,none⟩=some cs[i]:=by simp[World.cell?,hh,h1]
 rw[hcell];unfold Cell.ok at hok;rw[hu]at hok;cases hv:cs[i]<;>rw[hv]at hok<;>simp at hok;case int k' n=>exact⟨n,by rw[hok.1]⟩
theorem Qv{W:World}(hs:W.ShapedOpen Tryz.prog): ∃kd:Kd,@aN kd W:=by
 have hx:=mP (g:=5) (n:=8) (e:=3) (k:=.i64) (t:=553) (zero:=(List.replicate 8 (Value.int .i64 0)).toArray) hs (of_decide_eq_true (by kernel_rfl)) (by kernel_rfl) (by kernel_rfl) (by kernel_rfl) (by kernel_rfl) Tryz.underlying3;refine⟨⟨fun z=>if h:z.toNat<8 then Classical.choose (hx z.toNat h)else 0⟩,fun k hk=>?_⟩;have:=Classical.choose_spec (hx k hk);unfold IU;simp only[Int.toNat_natCast,hk,dif_pos];exact this
theorem Qw{W:World}(h:laidMetH Tryz.prog kI W)(hs:W.ShapedOpen Tryz.prog):(∃kd:Kd,@qx kd W)/\rR W:=by
 obtain⟨kd,hk⟩:=Qv hs;have ht:=Ro h hs;exact⟨⟨kd,@qx.mk kd W ht.2.1 ht.1 ht.2.2 hk (Te h)⟩,ht⟩
end Go.Proofs.YtedcakchekaemaaGreatDoor
namespace Go.Proofs.YtedcakchekaemaaGreatDoor
open Go.RowKit Go.ChangeShapes Go.WideShapes
def Jj:List CK:=[.str,.str,.int .i64,.bool]
theorem Tf:flat Tryz.prog 3 29=some Jj:=by kernel_rfl
theorem Qx:Tryz.prog.cellsOf 29=4:=by kernel_rfl
theorem Tg{cs:List Value}(h:Rn Jj cs): ∃x:Ej,cs=x.cells:=by
 obtain⟨hl,hf⟩:=h
 match cs,hl with
 | [v0,v1,v2,v3],_=>
   obtain⟨s0,rfl,_⟩:=hf 0 _ _ rfl rfl;obtain⟨s1,rfl,_⟩:=hf 1 _ _ rfl rfl;obtain⟨n2,rfl,_⟩:=hf 2 _ _ rfl rfl;obtain⟨b3,rfl⟩:=hf 3 _ _ rfl rfl;exact⟨⟨s0,s1,n2,b3⟩,rfl⟩
instance:Inhabited Ej:=⟨⟨ByteArray.empty,ByteArray.empty,0,false⟩⟩
theorem Hw{H:Type}{enc:TypeId×Value->H}{w:World}{fuel:Nat}{a0:Option Addr}{yJ cap0:Nat}{x:DataW H×List MemPlace}(h:DataW.trod enc Tryz.prog w 0 (fun _=>true) true fuel 22 (Value.cells (.slice a0 yJ cap0)).toList=some x)
  (hb:Rows.uptoBulk x.1<=1048576): ∃ms,Qq w a0 yJ ms/\True:=by
 obtain⟨ms,h1,h2⟩:=Ml (n:=3) Tryz.underlying22 Tf Qx (by omega) Tg h;refine⟨ms,⟨h1.1,fun hl=>?_⟩,trivial⟩;obtain⟨b,o,e1,e2,e3⟩:=h1.2 hl;exact⟨b,o,e1,e2,fun i hi=>⟨Nat.le_trans (h2 i hi 0 _ rfl) hb,fun j v hj=>e3 i hi j v hj⟩⟩
end Go.Proofs.YtedcakchekaemaaGreatDoor
