/- Contracts of the program, part 11. -/
import Derived.Test.YtedcakchekaemaaGreatDoorMp07
import Derived.Test.YtedcakchekaemaaGreatDoorShelf
set_option maxRecDepth 100000
set_option maxHeartbeats 16000000
set_option linter.all false
namespace Go.Proofs.YtedcakchekaemaaGreatDoor
open Go.RowKit
variable [Kd]
theorem KE{n:Nat}{B:List Int}{i:Nat}{x:Int}{j:Nat}(hn:0<n)(h:wM n B i=some (x,j)):i<j/\j<=B.length:=by
 unfold wM at h;split at h
 ·simp only[Option.some.injEq,Prod.mk.injEq]at h;omega
 ·cases h
theorem VG{B:List Int}(hB:pE B){i:Nat}(hi:i<=B.length){num kind:Int}{f:bN}{j:Nat}(h:uG B i num kind=some (f,j)):i<j/\j<=B.length:=by
 unfold uG at h;split at h
 ·obtain⟨⟨x,n⟩,h1,h2⟩:=Option.map_eq_some_iff.1 h
  simp only[Prod.mk.injEq]at h2;have:=kU hB hi h1;omega
 ·split at h
  ·obtain⟨⟨x,n⟩,h1,h2⟩:=Option.bind_eq_some_iff.1 h
   have:=kU hB hi h1;simp only at h2;split at h2
   ·cases h2
   ·simp only[Option.some.injEq,Prod.mk.injEq]at h2
    omega
  ·split at h
   ·obtain⟨⟨x,n⟩,h1,h2⟩:=Option.map_eq_some_iff.1 h
    simp only[Prod.mk.injEq]at h2;have:=KE (by omega) h1;omega
   ·split at h
    ·obtain⟨⟨x,n⟩,h1,h2⟩:=Option.map_eq_some_iff.1 h
     simp only[Prod.mk.injEq]at h2;have:=KE (by omega) h1;omega
    ·cases h
theorem EC{B:List Int}(hB:pE B){s s':vF}(hi:s.at'<=B.length)(h8:s.op.length<=8)(vX:s.out.length<=256)(h:tN B s=some s'):s.at'<s'.at'/\s'.at'<=B.length/\s'.op.length<=8/\s'.out.length<=256:=by
 unfold tN at h;obtain⟨⟨x,j⟩,h1,h2⟩:=Option.bind_eq_some_iff.1 h;obtain⟨q1,q2,_,_⟩:=kU hB hi h1;simp only at h2;split at h2
 ·cases h2
 ·split at h2
  ·split at h2
   ·cases h2
   ·simp only[Option.some.injEq]at h2;subst h2
    refine⟨q1,q2,?_,vX⟩;simp only[List.length_append,List.length_singleton];omega
  ·split at h2
   ·split at h2
    ·simp only[Option.some.injEq]at h2;subst h2
     refine⟨q1,q2,?_,vX⟩;simp only[List.length_dropLast];omega
    ·cases h2
   ·unfold jf at h2
    obtain⟨⟨f,m⟩,h3,h4⟩:=Option.bind_eq_some_iff.1 h2;have:=VG hB q2 h3;simp only at h4;split at h4
    ·simp only[Option.some.injEq]at h4;subst h4
     exact⟨by simp only;omega,by simp only;omega,h8,vX⟩
    ·split at h4
     ·cases h4
     ·simp only[Option.some.injEq]at h4;subst h4
      refine⟨by simp only;omega,by simp only;omega,h8,?_⟩;simp only[List.length_append,List.length_singleton];omega
def kX(t:Option (List bN))(W0:World)(e:Ending)(w':World):Prop:=
 match t with
 |some l=>(∃aY,e=.returned (.tuple #[aY,.int .i64 0])/\Sl 100 fL 4 W0.heap.size w' aY l)/\ai [] W0 w'
 |none=>(∃ec:Int,ec≠0/\e=.returned (.tuple #[.slice none 0 0,.int .i64 ec]))/\ai [] W0 w'
structure VH (W0 w:World) (r:Nat) (v:Value) (B:List Int) (t:Option (List bN)) (s:vF) (gG aY:Value):Prop where
 rd:uT W0 w r v gG aY s
 i:s.at'<=B.length
 op:s.op.length<=8
 out:s.out.length<=256
 now: ∃n,B.length-s.at'<=n/\tQ B n s=t
theorem VH.step{W0 w w':World}{r:Nat}{v:Value}{B:List Int}{t:Option (List bN)}{s s':vF}{gG aY OG BS:Value}(hB:pE B)(h:VH W0 w r v B t s gG aY)(hi:s.at'<B.length)(hn:tN B s=some s')(h':uT W0 w' r v OG BS s'):
  VH W0 w' r v B t s' OG BS/\s.at'<s'.at':=by
 obtain⟨q1,q2,q3,q4⟩:=EC hB h.i h.op h.out hn;obtain⟨n,hn1,hn2⟩:=h.now;refine⟨⟨h',q2,q3,q4,?_⟩,q1⟩;cases n with
 |zero=>omega
 |succ n=>
  unfold tQ at hn2;rw[if_pos hi,hn]at hn2;exact⟨n,by omega,hn2⟩
theorem VH.bad{W0 w:World}{r:Nat}{v:Value}{B:List Int}{t:Option (List bN)}{s:vF}{gG aY:Value}(h:VH W0 w r v B t s gG aY)(hi:s.at'<B.length)(hn:tN B s=none):t=none:=by
 obtain⟨n,hn1,hn2⟩:=h.now;cases n with
 |zero=>omega
 |succ n=>
  unfold tQ at hn2;rw[if_pos hi,hn]at hn2;exact hn2.symm
theorem VH.done{W0 w:World}{r:Nat}{v:Value}{B:List Int}{t:Option (List bN)}{s:vF}{gG aY:Value}(h:VH W0 w r v B t s gG aY)(hi: ¬s.at'<B.length):t=if s.op=[]then some s.out else none:=by
 obtain⟨n,hn1,hn2⟩:=h.now;cases n with
 |zero=>exact hn2.symm
 |succ n=>
  unfold tQ at hn2;rw[if_neg hi]at hn2;exact hn2.symm
theorem vI(W0:World)(v:Value)(B:List Int)(hR:aG bL W0 v B)(hrb: ∀b,v.ownBlock=some b->b<W0.heap.size)(hc:eZ v)(hB:pE B)(hmx:B.length<=140737488351232):
  Calls Tryz.prog 164 #[v] W0 (kX (uH B) W0):=by
 obtain⟨va,vc,rfl⟩:=hR.form;unfold uH;by_cases hl:4096<B.length
 ·rw[if_pos hl]
  unfold kX;have hl':(4096:Int)<B.length:=by omega
  generalize B.length=N at*;clear hR hrb hc hB;go_enter Tryz.func164,Tryz.ntmps164
  go_wp2_with fail
  go_ret2
  exact⟨⟨3,by decide,rfl⟩,ai.refl _ _⟩
 ·rw[if_neg hl]
  have hl': ¬(4096:Int)<B.length:=by omega
  generalize ht:tQ B B.length ⟨0,[],[]⟩=t;have hJ:VH W0 (W0.alloc (.cells (fq (.slice va B.length vc) 0 (.slice none 0 0) (.slice none 0 0)) 339)) W0.heap.size (.slice va B.length vc) B t ⟨0,[],[]⟩ (.slice none 0 0) (.slice none 0 0):=
   ⟨⟨(ai.refl _ _).alloc _,heap_alloc_new _ _,Nat.le_refl _,Sl.nil _ _ _,Sl.nil _ _ _,(fun g hg=>by cases hg),(fun g hg=>by cases hg),(fun g hg=>by cases hg)⟩,Nat.zero_le _,by simp,by simp,B.length,by simp,ht⟩
  change Hid _ at hJ;go_enter Tryz.func164,Tryz.ntmps164
  go_wp2_with fail
  go_loopg[5] B.length (fun g s5 wr=> ∃(s:vF) (gG aY:Value),g=B.length-s.at'/\Hid (VH W0 wr W0.heap.size (.slice va B.length vc) B t s gG aY))
  case atStart=>exact⟨_,_,_,rfl,hJ⟩
  case round=>
   obtain⟨s,gG,aY,rfl,hJ2⟩:=hrel;obtain⟨⟨c0,c1,c2,c3⟩,hf⟩:=QA hJ2.out.rd.blk;obtain⟨oa,oc,rfl⟩:=hJ2.out.rd.op.sl;by_cases hi:s.at'<B.length
   ·have hi':(s.at':Int)<B.length:=by omega
    have cN:=QJ W0 _ _ _ _ _ B s hJ2.out.rd hR hrb hc hB (by omega) hJ2.out.i hJ2.out.out hJ2.out.op;cases hn:tN B s with
    |none=>
     have htn:=hJ2.out.bad hi hn;subst htn;rw[hn]at cN;unfold dh at cN;unfold kX;replace cN:=af cN;clear hR hrb hc hB hJ hJ2 hn;go_wp2_with fail
     refine cN.out.mono ?_;rintro e w1 ⟨⟨ec,aD,rfl⟩,hO⟩;have h1:(ec !=0)=true:=by simpa using aD
     change Hid _ at hO aD;go_wp2_with fail
     go_ret2
     exact⟨⟨ec,aD.out,rfl⟩,hO.out⟩
    |some s'=>
     rw[hn]at cN;unfold dh at cN;replace cN:=af cN;go_wp2_with fail
     refine cN.out.mono ?_;rintro e w1 ⟨rfl,OG,BS,h'⟩;obtain⟨hJ3,hlt⟩:=hJ2.out.step hB hi hn h';have ah6:=hJ3.i;change Hid _ at hJ3;clear hR hrb hc hB hJ hJ2 hn h' c0 c1 c2 c3 hf cN;go_wp2_with fail
     go_roundg(B.length-s'.at')
     case measure=>omega
     case rel=>exact⟨s',OG,BS,rfl,hJ3⟩
   ·have hi': ¬(s.at':Int)<B.length:=by omega
    have htd:=hJ2.out.done hi;have hO:=af hJ2.out.rd.own;by_cases ho:s.op.length=0
    ·rw[if_pos (List.eq_nil_of_length_eq_zero ho)]at htd
     subst htd;unfold kX;have hS:=af hJ2.out.rd.out;rw[ho]at c2;clear hR hrb hc hB hJ hJ2 ho;go_wp2_with fail
     go_ret2
     exact⟨⟨_,rfl,hS.out⟩,hO.out⟩
    ·rw[if_neg (fun hh=>ho (by rw[hh];rfl))]at htd
     subst htd;unfold kX;have ho':(0:Int)<s.op.length:=by omega
     generalize s.op.length=n at*;clear hR hrb hc hB hJ hJ2 ho;go_wp2_with fail
     go_ret2
     exact⟨⟨2,by decide,rfl⟩,hO.out⟩
end Go.Proofs.YtedcakchekaemaaGreatDoor
namespace Go.Proofs
open Go.RowKit Go.Shelf Go.Lib
namespace YtedcakchekaemaaGreatDoor
def ko(w:World):Prop:=Lib.Utf8Tabs (Tryz.laysValid_ren.g 3) (Tryz.laysValid_ren.g 4) w
theorem ko.below{w w':World}(h:ko w)(hb:Below w.heap.size w w'):ko w':=Utf8Tabs_below h hb
theorem ko.own{S:List Nat}{w w':World}(h:ko w)(hb:ai S w w')(hs: ∀x∈S,w.heap.size<=x):ko w':=h.below (hb.below (Nat.le_refl _) hs)
theorem ko.drew{w:World}(h:ko w):ko w.drew:=h
def iF(p:Nat->Bool)(s:ByteArray):Nat->Nat->Bool
 |0,_=>false
 |f+1,i=>if i<s.size then p (Utf8.decode s i).1||iF p s f (i+(Utf8.decode s i).2)else false
theorem rZ(s:ByteArray)(i:Nat)(h:i<s.size):1<=(Utf8.decode s i).2:=by
 by_cases ha:(s[i]'h).toNat<128
 ·rw[decode_ascii s i h ha];exact Nat.le_refl 1
 ·exact(decode_high s i h (by omega)).2
theorem mZ(p:Nat->Bool)(s:ByteArray)(f i:Nat)(h: ¬i<s.size):iF p s f i=false:=by
 cases f with
 |zero=>rfl
 |succ f=>simp[iF,h]
theorem uX(p:Nat->Bool)(s:ByteArray): ∀(f g i:Nat),s.size<=i+f->s.size<=i+g->iF p s f i=iF p s g i
 |0,g,i,h1,_=>by rw[mZ p s g i (by omega)];rfl
 |f+1,0,i,_,h2=>by rw[mZ p s (f+1) i (by omega)];rfl
 |f+1,g+1,i,h1,h2=>by
  simp only[iF];by_cases hi:i<s.size
  ·have hw:=rZ s i hi
   rw[if_pos hi,if_pos hi,uX p s f g _ (by omega) (by omega)]
  ·rw[if_neg hi,if_neg hi]
theorem uY(p:Nat->Bool)(s:ByteArray)(i:Nat)(h:i<s.size):iF p s s.size i=(p (Utf8.decode s i).1||iF p s s.size (i+(Utf8.decode s i).2)):=by
 have hw:=rZ s i h;rw[uX p s s.size (s.size+1) i (by omega) (by omega)];simp only[iF];rw[if_pos h]
def AO(c:Nat):Bool:=c==0
def uo(c:Nat):Bool:=c==43||c==35
def qR(s:ByteArray):Bool:= !(decide (65535<s.size)|| !(Lib.validD s.data.toList))&& !(iF AO s s.size 0)
def BX(s:ByteArray):Bool:=iF uo s s.size 0
def ng(s:ByteArray):Bool:= !(s.toList.isEmpty||decide (96<s.size)|| !(qR s))&&decide (Lib.countByte s.data.toList 47<12)
def jq(s:ByteArray):Bool:=ng s&& !(BX s)
theorem Pt(s:ByteArray)(w:World):
  Calls Tryz.prog 161 #[.string s] w fun e w'=>e=.returned (.bool (BX s))/\ai [] w w':=by
 obtain⟨ANS,hANS⟩: ∃ANS,BX s=ANS:=⟨_,rfl⟩;rw[hANS];go_enter Tryz.func161,Tryz.ntmps161
 go_wp2
 go_loopg[4] (s.size+1) (fun g _ wr=> ∃i:Nat,wr=w.iter s i/\g=s.size+1-i/\Aside (iF uo s s.size i=ANS))
 case atStart=>exact⟨0,rfl,rfl,hANS⟩
 case round=>
  obtain⟨i,rfl,hg,hA⟩:=hrel;replace hA:=hA.out;by_cases hi:i<s.size
  ·have hnx: ∀ty,(Instr.next (.pointer (some ⟨w.heap.size,0,none⟩)) true ty).run Tryz.prog (w.iter s i)=_:=fun ty=>run_next_any w s i ty hi
   have hw:=rZ s i hi;rw[uY uo s i hi]at hA;change Hid _ at hw hg;cases hc:uo (Utf8.decode s i).1
   ·have h43:((((Utf8.decode s i).1:Nat):Int)==43)=false:=by simp[uo]at hc;simp;omega
    have h35:((((Utf8.decode s i).1:Nat):Int)==35)=false:=by simp[uo]at hc;simp;omega
    rw[hc,Bool.false_or]at hA;change Hid _ at hA;go_wp2
    go_roundg(s.size+1-(i+(Utf8.decode s i).2))
    case measure=>have:=hw.out;have:=hg.out;omega
    case rel=>exact⟨_,rfl,rfl,hA.out⟩
   ·rw[hc,Bool.true_or]at hA
    subst hA;by_cases h4:(Utf8.decode s i).1=43
    ·have h43:((((Utf8.decode s i).1:Nat):Int)==43)=true:=by simp;omega
     change Hid _ at h4;go_wp2
     go_ret
     exact⟨rfl,(ai.refl [] w).alloc _⟩
    ·have h43:((((Utf8.decode s i).1:Nat):Int)==43)=false:=by simp;omega
     have h35:((((Utf8.decode s i).1:Nat):Int)==35)=true:=by simp[uo]at hc;simp;omega
     change Hid _ at h4;go_wp2
     go_ret
     exact⟨rfl,(ai.refl [] w).alloc _⟩
  ·have hnx: ∀ty,(Instr.next (.pointer (some ⟨w.heap.size,0,none⟩)) true ty).run Tryz.prog (w.iter s i)=_:=fun ty=>run_next_end w s i ty hi
   rw[mZ _ _ _ _ hi]at hA;subst hA;go_wp2
   go_ret
   exact⟨rfl,(ai.refl [] w).alloc _⟩
theorem Lg(s:ByteArray)(w:World)(hT:ko w):
  Calls Tryz.prog 208 #[.string s] w fun e w'=>e=.returned (.bool (qR s))/\ai [] w w':=by
 obtain⟨ANS,hANS⟩: ∃ANS,qR s=ANS:=⟨_,rfl⟩;rw[hANS];unfold qR at hANS;by_cases h65:65535<s.size
 ·have h:(65535:Int)<(s.size:Int):=by omega
  simp only[h65,decide_true,Bool.true_or,Bool.not_true,Bool.false_and]at hANS;subst hANS;clear h65;go_enter Tryz.func208,Tryz.ntmps208
  go_wp2
  go_ret
  exact⟨rfl,ai.refl _ _⟩
 ·have h: ¬(65535:Int)<(s.size:Int):=by omega
  have cV:Calls Tryz.prog 252 #[.string s] w _:=Any.utf8_ValidString Tryz.laysValid s w (by omega) hT;simp only[h65,decide_false,Bool.false_or,Bool.not_not]at hANS;generalize Lib.validD s.data.toList=V at cV hANS;clear h65;cases V
  ·rw[Bool.false_and]at hANS
   subst hANS;replace cV:=af cV;go_enter Tryz.func208,Tryz.ntmps208
   go_wp2_with(go_at_call 252;refine cV.out.mono ?_;rintro e w1 ⟨rfl,hb⟩)
   go_ret
   exact⟨rfl,ai.of_below hb (Nat.le_refl _)⟩
  ·rw[Bool.true_and]at hANS
   change Hid _ at hANS;replace cV:=af cV;go_enter Tryz.func208,Tryz.ntmps208
   go_wp2_with(go_at_call 252;refine cV.out.mono ?_;rintro e w1 ⟨rfl,hb⟩)
   change Hid _ at hb;go_loopg[4] (s.size+1) (fun g _ wr=> ∃i:Nat,wr=w1.iter s i/\g=s.size+1-i/\Aside ((!(iF AO s s.size i))=ANS))
   case atStart=>exact⟨0,rfl,rfl,hANS.out⟩
   case round=>
    obtain⟨i,rfl,hg,hA⟩:=hrel;replace hA:=hA.out;by_cases hi:i<s.size
    ·have hnx: ∀ty,(Instr.next (.pointer (some ⟨w1.heap.size,0,none⟩)) true ty).run Tryz.prog (w1.iter s i)=_:=fun ty=>run_next_any w1 s i ty hi
     have hw:=rZ s i hi;rw[uY AO s i hi]at hA;change Hid _ at hw hg;cases hc:AO (Utf8.decode s i).1
     ·have h0:((((Utf8.decode s i).1:Nat):Int)==0)=false:=by simp[AO]at hc;simp;omega
      rw[hc,Bool.false_or]at hA;change Hid _ at hA;go_wp2
      go_roundg(s.size+1-(i+(Utf8.decode s i).2))
      case measure=>have:=hw.out;have:=hg.out;omega
      case rel=>exact⟨_,rfl,rfl,hA.out⟩
     ·rw[hc,Bool.true_or,Bool.not_true]at hA
      subst hA;have h0:((((Utf8.decode s i).1:Nat):Int)==0)=true:=by simp[AO]at hc;simp;omega
      go_wp2
      go_ret
      exact⟨rfl,(ai.of_below hb.out (Nat.le_refl _)).alloc _⟩
    ·have hnx: ∀ty,(Instr.next (.pointer (some ⟨w1.heap.size,0,none⟩)) true ty).run Tryz.prog (w1.iter s i)=_:=fun ty=>run_next_end w1 s i ty hi
     rw[mZ _ _ _ _ hi,Bool.not_false]at hA;subst hA;go_wp2
     go_ret
     exact⟨rfl,(ai.of_below hb.out (Nat.le_refl _)).alloc _⟩
theorem Lh(s:ByteArray)(w:World)(hT:ko w):
  Calls Tryz.prog 160 #[.string s] w fun e w'=>e=.returned (.bool (ng s))/\ai [] w w':=by
 obtain⟨ANS,hANS⟩: ∃ANS,ng s=ANS:=⟨_,rfl⟩;rw[hANS];unfold ng at hANS;cases h0:s.toList.isEmpty
 ·by_cases h96:96<s.size
  ·have h:(96:Int)<(s.size:Int):=by omega
   simp only[h0,h96,decide_true,Bool.true_or,Bool.or_true,Bool.not_true,Bool.false_and]at hANS;subst hANS;clear h96;go_enter Tryz.func160,Tryz.ntmps160
   go_wp2
   go_ret
   exact⟨rfl,ai.refl _ _⟩
  ·have h: ¬(96:Int)<(s.size:Int):=by omega
   have cR:=Lg s w hT;have cC: ∀w',Calls Tryz.prog 86 #[.string s,.string ⟨#[47]⟩] w' _:=fun w'=>Any.strings_Count_one Tryz.laysCount s 47 w'
   simp only[h0,h96,decide_false,Bool.false_or,Bool.not_not]at hANS;generalize qR s=V at cR hANS;generalize Lib.countByte s.data.toList 47=C at cC hANS;clear h96;change Hid _ at cC;replace cR:=af cR;cases V
   ·rw[Bool.false_and]at hANS
    subst hANS;go_enter Tryz.func160,Tryz.ntmps160
    go_wp2_with(go_at_call 208;refine cR.out.mono ?_;rintro e w1 ⟨rfl,hb⟩)
    go_ret
    exact⟨rfl,hb⟩
   ·rw[Bool.true_and]at hANS
    have hC:decide ((C:Int)<12)=ANS:=by rw[<-hANS];congr 1;simp;omega
    change Hid _ at hANS;go_enter Tryz.func160,Tryz.ntmps160
    go_wp2_with(first|(go_at_call 208;refine cR.out.mono ?_;rintro e w1 ⟨rfl,hb⟩)|(go_at_call 86;refine(cC.out _).mono ?_;rintro e w2 ⟨rfl,rfl⟩))
    all_goals go_ret
    all_goals(refine⟨?_,by first|exact hb|exact hb.drew⟩;simp_all)
 ·simp only[h0,Bool.true_or,Bool.not_true,Bool.false_and]at hANS
  subst hANS;go_enter Tryz.func160,Tryz.ntmps160
  go_wp2
  go_ret
  exact⟨rfl,ai.refl _ _⟩
theorem DC(s:ByteArray)(w:World)(hT:ko w):
  Calls Tryz.prog 91 #[.string s] w fun e w'=>e=.returned (.bool (jq s))/\ai [] w w':=by
 have cS:=Lh s w hT;have cW: ∀w',Calls Tryz.prog 161 #[.string s] w' _:=fun w'=>Pt s w'
 unfold jq;generalize ng s=V at cS⊢;generalize BX s=V' at cW⊢;change Hid _ at cW;replace cS:=af cS;go_enter Tryz.func91,Tryz.ntmps91
 cases V
 ·go_wp2_with(go_at_call 160;refine cS.out.mono ?_;rintro e w1 ⟨rfl,hb⟩)
  go_ret
  exact⟨rfl,hb⟩
 ·go_wp2_with(first|(go_at_call 160;refine cS.out.mono ?_;rintro e w1 ⟨rfl,hb⟩)|(go_at_call 161;refine(cW.out _).mono ?_;rintro e w2 ⟨rfl,hb2⟩))
  go_ret
  exact⟨rfl,hb.trans hb2⟩
end YtedcakchekaemaaGreatDoor
end Go.Proofs
namespace Go.Proofs.YtedcakchekaemaaGreatDoor
open Go.RowKit
variable [Kd]
theorem KF: ∀(l:List Int),pE l->0<=mW l/\mW l<256^l.length
 | [],_=>by simp[mW]
 |c::r,h=>by
  obtain⟨c0,c1⟩:=h c (by simp);obtain⟨h0,h1⟩:=KF r (fun y hy=>h y (by simp[hy]));have e:(256:Int)^(r.length+1)=256*256^r.length:=by rw[Int.pow_succ,Int.mul_comm]
  unfold mW;rw[List.length_cons,e];omega
theorem ED{n:Nat}{B:List Int}(hB:pE B){i:Nat}{x:Int}{j:Nat}(h:wM n B i=some (x,j)):0<=x/\x<256^n:=by
 unfold wM at h;split at h
 ·rename_i hi
  simp only[Option.some.injEq,Prod.mk.injEq]at h;obtain⟨rfl,rfl⟩:=h;have:=KF ((B.drop i).take n) ((hB.drop i).take n);rw[List.length_take,List.length_drop,Nat.min_eq_left (by omega)]at this;exact this
 ·cases h
structure bN.Ok (f:bN):Prop where
 n0:1<=f.num
 n1:f.num<536870912
 k:f.kind=0\/f.kind=1\/f.kind=2\/f.kind=5
 v0:0<=f.val
 v1:f.val<=18446744073709551615
 t:f.text.size<=4096
theorem QK{B:List Int}(hB:pE B)(hl:B.length<=4096){i:Nat}(hi:i<=B.length){num kind:Int}(n0:1<=num)(n1:num<536870912){f:bN}{j:Nat}(h:uG B i num kind=some (f,j)):f.Ok:=by
 unfold uG at h;split at h
 ·rename_i hk
  obtain⟨⟨x,n⟩,h1,h2⟩:=Option.map_eq_some_iff.1 h;simp only[Prod.mk.injEq]at h2;obtain⟨rfl,rfl⟩:=h2;obtain⟨_,_,q3,q4⟩:=kU hB hi h1;exact⟨n0,n1,.inl hk,q3,q4,Nat.zero_le _⟩
 ·split at h
  ·rename_i hk
   obtain⟨⟨x,n⟩,h1,h2⟩:=Option.bind_eq_some_iff.1 h;simp only at h2;split at h2
   ·cases h2
   ·simp only[Option.some.injEq,Prod.mk.injEq]at h2
    obtain⟨rfl,rfl⟩:=h2;refine⟨n0,n1,.inr (.inr (.inl hk)),Int.le_refl _,(by show(0:Int)<=_;omega),?_⟩;show(strOfNums _).size<=4096;rw[ze,List.length_take,List.length_drop];omega
  ·split at h
   ·rename_i hk
    obtain⟨⟨x,n⟩,h1,h2⟩:=Option.map_eq_some_iff.1 h;simp only[Prod.mk.injEq]at h2;obtain⟨rfl,rfl⟩:=h2;obtain⟨q1,q2⟩:=ED hB h1;have e:(256:Int)^8=18446744073709551616:=by decide
    exact⟨n0,n1,.inr (.inl hk),q1,by show x<=_;omega,Nat.zero_le _⟩
   ·split at h
    ·rename_i hk
     obtain⟨⟨x,n⟩,h1,h2⟩:=Option.map_eq_some_iff.1 h;simp only[Prod.mk.injEq]at h2;obtain⟨rfl,rfl⟩:=h2;obtain⟨q1,q2⟩:=ED hB h1;have e:(256:Int)^4=4294967296:=by decide
     exact⟨n0,n1,.inr (.inr (.inr hk)),q1,by show x<=_;omega,Nat.zero_le _⟩
    ·cases h
theorem Mt{B:List Int}(hB:pE B)(hl:B.length<=4096){s s':vF}(hi:s.at'<=B.length)(ho: ∀f∈s.out,f.Ok)(h:tN B s=some s'): ∀f∈s'.out,f.Ok:=by
 unfold tN at h;obtain⟨⟨x,j⟩,h1,h2⟩:=Option.bind_eq_some_iff.1 h;obtain⟨q1,q2,_,_⟩:=kU hB hi h1;simp only at h2;split at h2
 ·cases h2
 ·rename_i hn
  split at h2
  ·split at h2
   ·cases h2
   ·simp only[Option.some.injEq]at h2;subst h2;exact ho
  ·split at h2
   ·split at h2
    ·simp only[Option.some.injEq]at h2;subst h2;exact ho
    ·cases h2
   ·unfold jf at h2
    obtain⟨⟨f,m⟩,h3,h4⟩:=Option.bind_eq_some_iff.1 h2;have hf:=QK hB hl q2 (by omega) (by omega) h3;simp only at h4;split at h4
    ·simp only[Option.some.injEq]at h4;subst h4;exact ho
    ·split at h4
     ·cases h4
     ·simp only[Option.some.injEq]at h4;subst h4
      intro g hg;rcases List.mem_append.1 hg with hg|hg
      ·exact ho g hg
      ·rw[List.mem_singleton]at hg;subst hg;exact hf
theorem EF{B:List Int}(hB:pE B)(hl:B.length<=4096): ∀(n:Nat) (s:vF),s.at'<=B.length->s.op.length<=8->s.out.length<=256->(∀f∈s.out,f.Ok)-> ∀l,tQ B n s=some l->l.length<=256/\ ∀f∈l,f.Ok
 |0,s,_,_,h3,h4,l,h=>by
  unfold tQ at h;split at h
  ·simp only[Option.some.injEq]at h;subst h;exact⟨h3,h4⟩
  ·cases h
 |n+1,s,h1,h2,h3,h4,l,h=>by
  unfold tQ at h;split at h
  ·obtain⟨s',e,h5⟩:=Option.bind_eq_some_iff.1 h
   obtain⟨_,q2,q3,q4⟩:=EC hB h1 h2 h3 e;exact EF hB hl n s' q2 q3 q4 (Mt hB hl h1 h4 e) l h5
  ·split at h
   ·simp only[Option.some.injEq]at h;subst h;exact⟨h3,h4⟩
   ·cases h
theorem nS{B:List Int}(hB:pE B){l:List bN}(h:uH B=some l):l.length<=256/\ ∀f∈l,f.Ok:=by
 unfold uH at h;split at h
 ·cases h
 ·exact EF hB (by omega) _ _ (Nat.zero_le _) (by simp) (by simp) (by simp) l h
theorem vJ{l:List bN}(h: ∀f∈l,f.Ok)(n:Int): ∀f∈bA l n,f.Ok:=fun f hf=>h f (List.mem_filter.1 hf).1
theorem rE(l:List bN)(n:Int):(bA l n).length<=l.length:=List.length_filter_le _ _
theorem bN.Ok.len{f:bN}(h:f.Ok):(ak f.text).length<=4096:=by rw[dX];exact h.t
theorem ZB{w:World}{b:Nat}{f:bN}(h:w.heap[b]?=some (.cells (fL f).toArray 100 (0,0))):
  w.cell? ⟨b,0,none⟩=some (.int .i64 f.num)/\w.cell? ⟨b,1,none⟩=some (.int .i64 f.kind)/\w.cell? ⟨b,2,none⟩=some (.int .u64 f.val)/\w.cell? ⟨b,3,none⟩=some (.string f.text):=
 ⟨cell_of_row _ _ 0 _ _ _ h,cell_of_row _ _ 1 _ _ _ h,cell_of_row _ _ 2 _ _ _ h,cell_of_row _ _ 3 _ _ _ h⟩
theorem aG.fld{w:World}{a:Option Addr}{n c:Nat}{l:List bN}(h:aG fL w (.slice a n c) l){k:Nat}(hk:k<l.length):
  ∃b o,a=some ⟨b,o,none⟩/\w.cell? ⟨b,o+k*4,none⟩=some (.int .i64 l[k].num)/\w.cell? ⟨b,o+k*4+1,none⟩=some (.int .i64 l[k].kind)/\w.cell? ⟨b,o+k*4+2,none⟩=some (.int .u64 l[k].val)/\w.cell? ⟨b,o+k*4+3,none⟩=some (.string l[k].text):=by
 obtain⟨b,o,rfl,hx⟩:=h.at_ eT (by omega);have e:=List.getElem?_eq_getElem hk;refine⟨b,o,rfl,hx k _ 0 _ e rfl,?_,?_,?_⟩
 ·have:=hx k _ 1 _ e rfl;rwa[<-Nat.add_assoc]at this
 ·have:=hx k _ 2 _ e rfl;rwa[<-Nat.add_assoc]at this
 ·have:=hx k _ 3 _ e rfl;rwa[<-Nat.add_assoc]at this
theorem wP{l:List bN}{n:Int}{k:Nat}(hk:k<l.length):bA (l.take (k+1)) n=bA (l.take k) n++(if l[k].num==n then[l[k]]else[]):=by
 unfold bA;rw[List.take_succ_eq_append_getElem hk,List.filter_append]
 congr 1
 by_cases h:l[k].num==n<;>simp[h]
theorem QL(f:bN)(num:Int)(nb:Nat)(w:World)(hn:w.cell? ⟨nb,0,none⟩=some (.int .i64 num)):
  Calls Tryz.prog 212 #[.agg (fL f).toArray,.pointer (some ⟨nb,0,none⟩)] w fun e w'=>e=.returned (.bool (f.num==num))/\w'=w.alloc (.cells (fL f).toArray 100):=by
 obtain⟨a,b,c,d⟩:=f;unfold fL;have hlt:=block_lt_of_cell hn;have hk2:(w.alloc (.cells #[.int .i64 a,.int .i64 b,.int .u64 c,.string d] 100)).cell? ⟨nb,0,none⟩=some (.int .i64 num):=(World.cell?_alloc_lt _ _ _ hlt).trans hn;go_enter Tryz.func212,Tryz.ntmps212
 go_wp2_with fail
 go_ret
 exact⟨rfl,rfl⟩
theorem Mv(v:Value)(l:List bN)(num:Int)(nb:Nat)(w:World)(h:aG fL w v l)(hl:l.length<=256)(hn:w.cell? ⟨nb,0,none⟩=some (.int .i64 num)):
  Calls Tryz.prog 211 #[v,.func (.func 212) #[] #[.pointer (some ⟨nb,0,none⟩)]] w fun e w'=> ∃v',e=.returned v'/\Sl 100 fL 4 w.heap.size w' v' (bA l num)/\ai [] w w':=by
 obtain⟨sa,sc,rfl⟩:=h.form;have hC:=fun f W (ho:ai [] w W)=>QL f num nb W ((ho.cell (block_lt_of_cell hn) (by simp)).trans hn)
 change Hid _ at hC;replace h:=af h;clear hn;go_enter Tryz.func211,Tryz.ntmps211
 go_wp2_with fail
 go_loopg[5,10] l.length (fun g s5 s10 wr=> ∃k:Nat,k<=l.length/\g=l.length-k/\s10=.int .i64 k/\Aside (ai [] w wr/\Sl 100 fL 4 w.heap.size wr s5 (bA (l.take k) num)))
 case atStart=>exact⟨0,by omega,by omega,rfl,ai.refl _ _,by simpa[bA]using Sl.nil _ _ _⟩
 case round=>
  obtain⟨k,hk,rfl,rfl,hO,hS⟩:=hrel;have k0:(0:Int)<=k:=by omega
  by_cases hlt:k<l.length
  ·have k1:(k:Int)<l.length:=by omega
   have hwk:IntKind.i64.wrap ((k:Int)+1)=(k:Int)+1:=IntWalk.i64_in _ (by omega);obtain⟨b,o,rfl,c0,c1,c2,c3⟩:=(h.out.nil' hO).fld hlt;have hT:=wP (n:=num) hlt;have XO:(bA (l.take k) num).length<=256:=Nat.le_trans (rE _ _) (by rw[List.length_take];omega);generalize l[k]=f at*;obtain⟨f1,f2,f3,f4⟩:=f;simp only at c0 c1 c2 c3 hT;have hA:=(ai.refl [] wr).alloc (.cells #[.int .i64 f1,.int .i64 f2,.int .u64 f3,.string f4] 100);have O9:=hC.out ⟨f1,f2,f3,f4⟩ _ (hO.trans hA);unfold fL at O9;simp only at O9;have hA2:=hA.alloc (.cells #[.int .i64 f1,.int .i64 f2,.int .u64 f3,.string f4] 100);have hb2:=((ai.refl [] (wr.alloc (.cells #[.int .i64 f1,.int .i64 f2,.int .u64 f3,.string f4] 100))).alloc (.cells #[.int .i64 f1,.int .i64 f2,.int .u64 f3,.string f4] 100)).heap (heap_alloc_new wr _) (by simp);obtain⟨d0,d1,d2,d3⟩:=ZB (f:=⟨f1,f2,f3,f4⟩) hb2;simp only at d0 d1 d2 d3;obtain⟨sa5,sc5,rfl⟩:=hS.sl;replace O9:=af O9;generalize hF:bA (l.take k) num=F at*;cases hq:f1==num
   ·rw[hq]at O9 hT
    simp only[Bool.false_eq_true,if_false,List.append_nil]at hT;have hO2:=af (hO.trans hA2);have hS2:=af (hS.nil' hA2);change Hid _ at hT;clear hq hA hA2 hS hO hb2 hC h hF;go_wp2_with(go_at_call 212;(with_reducible refine O9.out.mono ?_);rintro e w2 ⟨rfl,rfl⟩)
    go_roundg(l.length-(k+1))
    case measure=>omega
    case rel=>exact⟨k+1,by omega,rfl,by simp,hO2.out,by rw[hT.out];exact hS2.out⟩
   ·rw[hq]at O9 hT
    simp only[if_true]at hT;have hO2:=hO.trans hA2;have hS2:=hS.nil' hA2;generalize((wr.alloc (.cells #[.int .i64 f1,.int .i64 f2,.int .u64 f3,.string f4] 100)).alloc (.cells #[.int .i64 f1,.int .i64 f2,.int .u64 f3,.string f4] 100))=W2 at*;have hRb:=af (aG.new (enc:=fL) (T:=100) W2 ⟨f1,f2,f3,f4⟩ 1);have hO3:=af (hO2.alloc (.cells #[.int .i64 f1,.int .i64 f2,.int .u64 f3,.string f4] 100));have uh:=af (hS2.nil' ((ai.refl [] W2).alloc (.cells #[.int .i64 f1,.int .i64 f2,.int .u64 f3,.string f4] 100)));have hl1:=af (show(F.length+1)*40<=140737488355328 by omega);have hl2:=af (show F.length+1<=maxLen by unfold maxLen;omega);change Hid _ at hT;clear hq hA hA2 hS hO hb2 hC h hF hS2 hO2 XO;go_wp2_with(first
     |(go_at_call 212;(with_reducible refine O9.out.mono ?_);rintro e w2 ⟨rfl,rfl⟩)
     |(at_builtin;refine aT rfl (.tmp 17) (.tmp 19) rfl Be hO3.out rfl uh.out rfl hRb.out hl1.out hl2.out ?_;intro va wa kI Ay _ hg2 hg3;obtain⟨aa,ca,rfl⟩:=kI.sl;replace Ay:=af Ay;replace kI:=af kI))
    go_roundg(l.length-(k+1))
    case measure=>omega
    case rel=>exact⟨k+1,by omega,rfl,by simp,Ay.out,by have hh:=kI.out;rw[List.length_append]at hh;rw[hT.out];exact hh⟩
  ·have k1: ¬(k:Int)<l.length:=by omega
   rw[List.take_of_length_le (by omega)]at hS;change Hid _ at hO hS;clear hC h;go_wp2_with fail
   go_ret
   exact⟨_,rfl,hS.out,hO.out⟩
theorem rF(v:Value)(l:List bN)(num:Int)(w:World)(h:aG fL w v l)(hl:l.length<=256):
  Calls Tryz.prog 166 #[v,.int .i64 num] w fun e w'=> ∃v',e=.returned v'/\Sl 100 fL 4 w.heap.size w' v' (bA l num)/\ai [] w w':=by
 obtain⟨sa,sc,rfl⟩:=h.form;have hA:=(ai.refl [] w).alloc (.cells #[.int .i64 num] 3);have hn:(w.alloc (.cells #[.int .i64 num] 3)).cell? ⟨w.heap.size,0,none⟩=some (.int .i64 num):=cell_of_row _ _ 0 _ _ _ (heap_alloc_new w _);have cP:=af (Mv _ l num w.heap.size _ (h.nil' hA) hl hn);have hb:=af (show w.heap.size<=(w.alloc (.cells #[.int .i64 num] 3)).heap.size from hA.size);replace hA:=af hA;clear h hn;go_enter Tryz.func166,Tryz.ntmps166
 go_wp2_with fail
 refine cP.out.mono ?_;rintro e w2 ⟨v2,rfl,hS,hO⟩;obtain⟨a2,c2,rfl⟩:=hS.sl;change Hid _ at hO;replace hS:=af hS;go_wp2_with fail
 go_ret
 exact⟨_,rfl,hS.out.mono hb.out,hA.out.trans hO.out⟩
theorem q4{w:World}{b:Nat}{x0 x1 x2 x3:Value}{T:TypeId}(h:w.heap[b]?=some (.cells #[x0,x1,x2,x3] T (0,0))):
  (w.cell? ⟨b,0,none⟩=some x0/\w.cell? ⟨b,1,none⟩=some x1/\w.cell? ⟨b,2,none⟩=some x2/\w.cell? ⟨b,3,none⟩=some x3)/\w.frozen? ⟨b,0,none⟩=false/\w.frozen? ⟨b,1,none⟩=false/\w.frozen? ⟨b,2,none⟩=false/\w.frozen? ⟨b,3,none⟩=false/\b<w.heap.size:=
 ⟨⟨cell_of_row _ _ 0 _ _ _ h,cell_of_row _ _ 1 _ _ _ h,cell_of_row _ _ 2 _ _ _ h,cell_of_row _ _ 3 _ _ _ h⟩,frozen_of_row w b 0 _ _ h,frozen_of_row w b 1 _ _ h,frozen_of_row w b 2 _ _ h,frozen_of_row w b 3 _ _ h,aj h⟩
theorem YN{w w0:World}{b:Nat}{x0 x1 x2 x3:Value}{T:TypeId}(h:w.heap[b]?=some (.cells #[x0,x1,x2,x3] T (0,0)))(ho:ai [] w0 w)(hb:w0.heap.size<=b)(u0 u1 u2 u3:Value):
  ((((w.setCell ⟨b,0,none⟩ u0).setCell ⟨b,1,none⟩ u1).setCell ⟨b,2,none⟩ u2).setCell ⟨b,3,none⟩ u3).heap[b]?=some (.cells #[u0,u1,u2,u3] T (0,0))/\ai [] w0 ((((w.setCell ⟨b,0,none⟩ u0).setCell ⟨b,1,none⟩ u1).setCell ⟨b,2,none⟩ u2).setCell ⟨b,3,none⟩ u3):=by
 have h1:=heap_setCell_same w b 0 _ T u0 h;have h2:=heap_setCell_same _ b 1 _ T u1 h1;have h3:=heap_setCell_same _ b 2 _ T u2 h2;have h4:=heap_setCell_same _ b 3 _ T u3 h3;exact⟨by simpa using h4,(((ho.setCell (.inr hb) _).setCell (.inr hb) _).setCell (.inr hb) _).setCell (.inr hb) _⟩
theorem Mw(v:Value)(l:List bN)(num:Int)(w:World)(h:aG fL w v l)(hl:l.length<=256):
  Calls Tryz.prog 415 #[v,.int .i64 num] w fun e w'=>(∃(x:bN) (b:Bool),e=.returned (.tuple #[.agg (fL x).toArray,.bool b])/\x.val=((bA l num).getLast?.map (·.val)).getD 0)/\ai [] w w':=by
 obtain⟨sa,sc,rfl⟩:=h.form;have hA:=(ai.refl [] w).alloc (.cells #[.int .i64 0,.int .i64 0,.int .u64 0,.string ⟨#[]⟩] 100);have hb0:=heap_alloc_new w (.cells #[.int .i64 0,.int .i64 0,.int .u64 0,.string ⟨#[]⟩] 100);have cA:=af (rF _ l num _ (h.nil' hA) hl);have hFl:(bA l num).length<=256:=Nat.le_trans (rE _ _) hl;clear h;generalize bA l num=F at*;obtain⟨q,hq⟩: ∃q,(F.getLast?.map (·.val)).getD 0=q:=⟨_,rfl⟩;rw[hq];go_enter Tryz.func415,Tryz.ntmps415
 go_wp2_with fail
 refine cA.out.mono ?_;rintro e w2 ⟨v2,rfl,hS,hO⟩;have hb2:=hO.heap hb0 (by simp);obtain⟨⟨d0,d1,d2,d3⟩,z0,z1,z2,z3,zl⟩:=q4 hb2;have hO2:=hA.trans hO;by_cases h0:F.length=0
 ·have hF:=List.eq_nil_of_length_eq_zero h0
  subst hF;obtain⟨a2,c2,rfl⟩:=hS.sl;obtain⟨hset,jo⟩:=YN hb2 hO2 (Nat.le_refl _) (.int .i64 0) (.int .i64 0) (.int .u64 0) (.string ⟨#[]⟩);change Hid _ at hset jo;clear hS hO hA cA hb2 hb0 hO2 h0;go_wp2_with fail
  obtain⟨⟨g0,g1,g2,g3⟩,_⟩:=q4 hset.out;exact bodyPost_ret (v:=.tuple #[.agg #[.int .i64 0,.int .i64 0,.int .u64 0,.string ⟨#[]⟩],.bool false]) (by simp[results,Tryz.results415,go_sem,g0,g1,g2,g3];try rfl) rfl ⟨⟨⟨0,0,0,⟨#[]⟩⟩,false,rfl,hq⟩,jo.out⟩
 ·have hw:IntKind.wrap .i64 ((F.length:Int)-1)=((F.length-1:Nat):Int):=by rw[IntKind.wrap_i64];omega
  have hn1:F.length-1<F.length:=by omega
  have hn0:(0:Int)<=((F.length-1:Nat):Int):=by omega
  have hnl:((F.length-1:Nat):Int)<(F.length:Int):=by omega
  have hne:((F.length:Int)==0)=false:=by simpa using h0
  obtain⟨a2,c2,rfl⟩:=hS.sl;obtain⟨b,o,rfl,c0,c1,c2,c3⟩:=(hS.reads eT).fld hn1;have hv:((F.getLast?.map (·.val)).getD 0)=F[F.length-1].val:=by rw[List.getLast?_eq_getElem?,List.getElem?_eq_getElem hn1];rfl
  rw[hv]at hq;clear hv;generalize F[F.length-1]=f at*;obtain⟨f1,f2,f3,f4⟩:=f;simp only at c0 c1 c2 c3 hq;subst hq;obtain⟨hset,jo⟩:=YN hb2 hO2 (Nat.le_refl _) (.int .i64 f1) (.int .i64 f2) (.int .u64 f3) (.string f4);change Hid _ at hset jo;clear hS hO hA cA hb2 hb0 hO2 h0 hn1;generalize F.length-1=m at*;generalize F.length=n at*;go_wp2_with fail
  obtain⟨⟨g0,g1,g2,g3⟩,_⟩:=q4 hset.out;exact bodyPost_ret (v:=.tuple #[.agg #[.int .i64 f1,.int .i64 f2,.int .u64 f3,.string f4],.bool true]) (by simp[results,Tryz.results415,go_sem,g0,g1,g2,g3];try rfl) rfl ⟨⟨⟨f1,f2,f3,f4⟩,true,rfl,rfl⟩,jo.out⟩
def aS(w:World):Prop:= ∀k:Nat,k<8->w.cell? ⟨5,k,none⟩=some (.int .i64 (KC k))
theorem aS.own{w w':World}(h:aS w)(ho:ai [] w w'):aS w':=fun k hk=>(ho.cell (block_lt_of_cell (h k hk)) (by simp)).trans (h k hk)
theorem Cs(k:Int)(w:World):Calls Tryz.prog 405 #[.int .i64 k] w fun e w'=>e=.returned (.bool (k==6||k==7))/\w=w':=by
 by_cases h6:k=6
 ·subst h6
  go_enter Tryz.func405,Tryz.ntmps405
  go_wp2_with fail
  go_ret
  exact⟨rfl,rfl⟩
 ·have q6:(k==6)=false:=by simpa using h6
  rw[q6];go_enter Tryz.func405,Tryz.ntmps405
  go_wp2_with fail
  go_ret
  exact⟨by simp,rfl⟩
def zm(k:Int):Int:=if k=0\/k=6\/k=7 then 0 else if k=1\/k=3 then 4294967295 else if k=5 then 1 else 18446744073709551615
theorem Im(k:Int)(w:World):Calls Tryz.prog 406 #[.int .i64 k] w fun e w'=>e=.returned (.int .u64 (zm k))/\w=w':=by
 unfold zm;by_cases h0:k=0
 ·subst h0
  go_enter Tryz.func406,Tryz.ntmps406
  go_wp2_with fail
  go_ret
  exact⟨rfl,rfl⟩
 by_cases h6:k=6
 ·subst h6
  go_enter Tryz.func406,Tryz.ntmps406
  go_wp2_with fail
  go_ret
  exact⟨rfl,rfl⟩
 by_cases h7:k=7
 ·subst h7
  go_enter Tryz.func406,Tryz.ntmps406
  go_wp2_with fail
  go_ret
  exact⟨rfl,rfl⟩
 by_cases h1:k=1
 ·subst h1
  go_enter Tryz.func406,Tryz.ntmps406
  go_wp2_with fail
  go_ret
  exact⟨rfl,rfl⟩
 by_cases h3:k=3
 ·subst h3
  go_enter Tryz.func406,Tryz.ntmps406
  go_wp2_with fail
  go_ret
  exact⟨rfl,rfl⟩
 by_cases h5:k=5
 ·subst h5
  go_enter Tryz.func406,Tryz.ntmps406
  go_wp2_with fail
  go_ret
  exact⟨rfl,rfl⟩
 have q0:(k==0)=false:=by simpa using h0
 have q1:(k==1)=false:=by simpa using h1
 have q3:(k==3)=false:=by simpa using h3
 have q5:(k==5)=false:=by simpa using h5
 have q6:(k==6)=false:=by simpa using h6
 have q7:(k==7)=false:=by simpa using h7
 rw[if_neg (by omega),if_neg (by omega),if_neg h5];go_enter Tryz.func406,Tryz.ntmps406
 go_wp2_with fail
 go_ret
 exact⟨rfl,rfl⟩
theorem EG(num base:Int)(raw:Bool)(w:World)(hn:0<=num/\num<=536870912)(hb:1<=base/\base<=1000):
  Calls Tryz.prog 404 #[.int .i64 num,.int .i64 base,.bool raw] w fun e w'=>e=.returned (.int .i64 (iQ num base raw))/\w=w':=by
 unfold iQ;obtain⟨k,hk⟩: ∃k,num-base+1=k:=⟨_,rfl⟩;have h1:IntKind.wrap .i64 (num-base)=k-1:=by rw[IntKind.wrap_i64];omega
 have h2:IntKind.wrap .i64 k=k:=by rw[IntKind.wrap_i64];omega
 rw[hk];change Hid _ at hk;clear hn hb;by_cases hk1:k<1
 ·rw[if_pos (.inl hk1)]
  go_enter Tryz.func404,Tryz.ntmps404
  go_wp2_with fail
  go_ret
  exact⟨rfl,rfl⟩
 by_cases hk7:7<k
 ·rw[if_pos (.inr (.inl hk7))]
  go_enter Tryz.func404,Tryz.ntmps404
  go_wp2_with fail
  go_ret
  exact⟨rfl,rfl⟩
 by_cases hk0:k=7
 ·subst hk0
  cases raw
  ·rw[if_pos (.inr (.inr ⟨rfl,rfl⟩))]
   go_enter Tryz.func404,Tryz.ntmps404
   go_wp2_with fail
   go_ret
   exact⟨rfl,rfl⟩
  ·rw[if_neg (by simp)]
   go_enter Tryz.func404,Tryz.ntmps404
   go_wp2_with fail
   go_ret
   exact⟨rfl,rfl⟩
 have q7:(k==7)=false:=by simpa using hk0
 have hng: ¬(k<1\/7<k\/(k=7/\raw=false)):=by
  rintro(h|h|⟨h,_⟩)
  ·exact hk1 h
  ·exact hk7 h
  ·exact hk0 h
 rw[if_neg hng];go_enter Tryz.func404,Tryz.ntmps404
 go_wp2_with fail
 go_ret
 exact⟨rfl,rfl⟩
def PV.val(p:PV):Value:=.agg #[.int .i64 p.k,.int .u64 p.n,.string p.s]
def vK(t:Option PV)(W0:World)(e:Ending)(w':World):Prop:=
 match t with
 |some v=>e=.returned (.tuple #[v.val,.int .i64 0])/\ai [] W0 w'
 |none=>(∃(x:PV) (ec:Int),ec≠0/\e=.returned (.tuple #[x.val,.int .i64 ec]))/\ai [] W0 w'
theorem q3{w:World}{b:Nat}{x0 x1 x2:Value}{T:TypeId}(h:w.heap[b]?=some (.cells #[x0,x1,x2] T (0,0))):
  (w.cell? ⟨b,0,none⟩=some x0/\w.cell? ⟨b,1,none⟩=some x1/\w.cell? ⟨b,2,none⟩=some x2)/\w.frozen? ⟨b,0,none⟩=false/\w.frozen? ⟨b,1,none⟩=false/\w.frozen? ⟨b,2,none⟩=false/\b<w.heap.size:=
 ⟨⟨cell_of_row _ _ 0 _ _ _ h,cell_of_row _ _ 1 _ _ _ h,cell_of_row _ _ 2 _ _ _ h⟩,frozen_of_row w b 0 _ _ h,frozen_of_row w b 1 _ _ h,frozen_of_row w b 2 _ _ h,aj h⟩
theorem jJ{w:World}{b:Nat}{x0 x1 x2:Value}{T:TypeId}(h:w.heap[b]?=some (.cells #[x0,x1,x2] T (0,0)))(u0 u1 u2:Value):
  (((w.setCell ⟨b,0,none⟩ u0).setCell ⟨b,1,none⟩ u1).setCell ⟨b,2,none⟩ u2).heap[b]?=some (.cells #[u0,u1,u2] T (0,0))/\ai [b] w (((w.setCell ⟨b,0,none⟩ u0).setCell ⟨b,1,none⟩ u1).setCell ⟨b,2,none⟩ u2):=by
 have h1:=heap_setCell_same w b 0 _ T u0 h;have h2:=heap_setCell_same _ b 1 _ T u1 h1;have h3:=heap_setCell_same _ b 2 _ T u2 h2;exact⟨by simpa using h3,(((ai.refl [b] w).setCell (.inl (by simp)) _).setCell (.inl (by simp)) _).setCell (.inl (by simp)) _⟩
structure QM (w wr:World) (rb vb:Nat) (base:Int) (raw:Bool) (l:List bN) (R:Option PV) (k:Nat) (v:PV):Prop where
 own:ai [] w wr
 res:wr.heap[rb]?=some (.cells #[.int .i64 0,.int .u64 0,.string ⟨#[]⟩] 105 (0,0))
 val:wr.heap[vb]?=some (.cells #[.int .i64 v.k,.int .u64 v.n,.string v.s] 105 (0,0))
 now:(l.drop k).foldlM (jg base raw) v=R
theorem QM.step{w wr:World}{rb vb:Nat}{base:Int}{raw:Bool}{l:List bN}{R:Option PV}{k:Nat}{v:PV}(h:QM w wr rb vb base raw l R k v)(hk:k<l.length):
  (match jg base raw v l[k]with|none=>R=none|some v'=>(l.drop (k+1)).foldlM (jg base raw) v'=R):=by
 have:=h.now;rw[List.drop_eq_getElem_cons hk,List.foldlM_cons]at this;cases hv:jg base raw v l[k]with
 |none=>rw[hv]at this;exact this.symm
 |some v'=>rw[hv]at this;exact this
theorem Ct(num base:Int)(raw:Bool):iQ num base raw=0\/(1<=iQ num base raw/\iQ num base raw<=7):=by
 unfold iQ;split
 ·exact .inl rfl
 ·rename_i h
  exact .inr ⟨by omega,by omega⟩
theorem EI{k n:Int}(hk:1<=k/\k<=7)(hn:n<=18446744073709551615):Qm k n=(!(k==6||k==7)&&decide (zm k<n)):=by
 obtain⟨h1,h7⟩:=hk;unfold Qm zm;rw[Bool.eq_iff_iff];simp only[decide_eq_true_eq,Bool.and_eq_true,Bool.not_eq_true',Bool.or_eq_false_iff,beq_eq_false_iff_ne];by_cases k6:k=6
 ·subst k6;simp
 by_cases k7:k=7
 ·subst k7;simp
 by_cases k1:k=1
 ·subst k1;simp;omega
 by_cases k3:k=3
 ·subst k3;simp;omega
 by_cases k5:k=5
 ·subst k5;simp
 ·rw[if_neg (by omega),if_neg (by omega),if_neg k5]
  constructor
  ·rintro(⟨h|h,_⟩|⟨h,_⟩)
   ·exact absurd h k1
   ·exact absurd h k3
   ·exact absurd h k5
  ·rintro⟨_,h⟩;omega
theorem yg(sv:Value)(l:List bN)(base:Int)(raw:Bool)(w:World)(h:aG fL w sv l)(hl:l.length<=256)(hf: ∀f∈l,f.Ok)(hb:1<=base/\base<=1000)(hK:aS w):
  Calls Tryz.prog 395 #[sv,.int .i64 base,.bool raw] w (vK (O5 base raw l) w):=by
 obtain⟨sa,sc,rfl⟩:=h.form;obtain⟨R,hR⟩: ∃R,O5 base raw l=R:=⟨_,rfl⟩;rw[hR];unfold O5 at hR;obtain⟨hb1,hb2⟩:=hb;have hJ0:QM w ((w.alloc (.cells #[.int .i64 0,.int .u64 0,.string ⟨#[]⟩] 105)).alloc (.cells #[.int .i64 0,.int .u64 0,.string ⟨#[]⟩] 105)) w.heap.size (w.heap.size+1) base raw l R 0 PV.zero:=
  ⟨((ai.refl [] w).alloc _).alloc _,((ai.refl [] _).alloc _).heap (heap_alloc_new w _) (by simp),heap_alloc2_new w _ _,by rw[List.drop_zero];exact hR⟩
 change Hid _ at hJ0;clear hR;go_enter Tryz.func395,Tryz.ntmps395
 go_wp2_with go_in
 generalize((w.alloc (.cells #[.int .i64 0,.int .u64 0,.string ⟨#[]⟩] 105)).alloc (.cells #[.int .i64 0,.int .u64 0,.string ⟨#[]⟩] 105))=w0 at*;obtain⟨rb,hrb⟩: ∃rb,rb=w.heap.size:=⟨_,rfl⟩;rw[<-hrb]at hJ0⊢;obtain⟨vb,hvb⟩: ∃vb,vb=rb+1:=⟨_,rfl⟩;rw[<-hvb]at hJ0⊢;have hrv:rb≠vb:=by omega
 have hwr:w.heap.size<=rb:=by omega
 have hwv:w.heap.size<=vb:=by omega
 clear hrb hvb;go_loopg[18] l.length (fun g s18 wr=> ∃(k:Nat) (v:PV),k<=l.length/\g=l.length-k/\s18=.int .i64 k/\Aside (QM w wr rb vb base raw l R k v))
 case atStart=>exact⟨0,_,by omega,by omega,rfl,hJ0.out⟩
 case round=>
  obtain⟨k,v,hk,rfl,rfl,hJ⟩:=hrel;have k0:(0:Int)<=k:=by omega
  obtain⟨⟨r0,r1,r2⟩,y0,y1,y2,hrl⟩:=q3 hJ.res;by_cases hlt:k<l.length
  ·have k1:(k:Int)<l.length:=by omega
   have hwk:IntKind.i64.wrap ((k:Int)+1)=(k:Int)+1:=IntWalk.i64_in _ (by omega);obtain⟨b,o,rfl,c0,c1,c2,c3⟩:=(h.nil' hJ.own).fld hlt;have hF:=hf l[k] (List.getElem_mem hlt);have hst:=hJ.step hlt;generalize l[k]=f at*;obtain⟨f1,f2,f3,f4⟩:=f;simp only at c0 c1 c2 c3;have hA:=(ai.refl [] wr).alloc (.cells #[.int .i64 f1,.int .i64 f2,.int .u64 f3,.string f4] 100);have hbx:=heap_alloc_new wr (.cells #[.int .i64 f1,.int .i64 f2,.int .u64 f3,.string f4] 100);have hJ2:QM w (wr.alloc (.cells #[.int .i64 f1,.int .i64 f2,.int .u64 f3,.string f4] 100)) rb vb base raw l R k v:=⟨hJ.own.trans hA,hA.heap hJ.res (by simp),hA.heap hJ.val (by simp),hJ.now⟩;have hK2:=hK.own hJ2.own;have cK:=af (EG f1 base raw (wr.alloc (.cells #[.int .i64 f1,.int .i64 f2,.int .u64 f3,.string f4] 100)) ⟨by have:=hF.n0;simp only at this;omega,by have:=hF.n1;simp only at this;omega⟩ ⟨hb1,hb2⟩);unfold jg at hst;simp only at hst;obtain⟨⟨d0,d1,d2,d3⟩,_⟩:=q4 hbx;have hKr:=Ct f1 base raw;obtain⟨K,hKe⟩: ∃K,iQ f1 base raw=K:=⟨_,rfl⟩;rw[hKe]at hst cK hKr;clear hKe hA;by_cases Pk:K=0
   ·subst Pk
    rw[if_pos rfl]at hst;simp only at hst;have hJ3:=af (show QM w _ rb vb base raw l R (k+1) v from⟨hJ2.own,hJ2.res,hJ2.val,hst⟩);clear hst hJ hJ2 h hJ0 hf hK2 hF hKr;go_wp2_with(go_at_call 404;(with_reducible refine cK.out.mono ?_);rintro e w2 ⟨rfl,rfl⟩)
    go_roundg(l.length-(k+1))
    case measure=>omega
    case rel=>exact⟨k+1,v,by omega,rfl,by simp,hJ3.out⟩
   ·rw[if_neg Pk]at hst
    have acB:1<=K/\K<=7:=by rcases hKr with h0|h0;exact absurd h0 Pk;exact h0
    have X3:=EI acB hF.v1;simp only at X3;rw[X3]at hst;obtain⟨kk,rfl⟩: ∃kk:Nat,K=(kk:Int):=⟨K.toNat,by omega⟩;have t0:=hK2 kk (by omega);have p0:(0:Int)<=kk:=by omega
    have p8:(kk:Int)<8:=by omega
    have q0:((kk:Int)==0)=false:=by simpa using Pk
    have cT:=af (fun W=>Cs (kk:Int) W);have cL:=af (fun W=>Im (kk:Int) W);have hc1:=hF.v1;simp only at hc1;change Hid _ at hJ2;clear X3 hKr acB hK2 hF hf hJ hJ0 h Pk;generalize KC (kk:Int)=kd at*;go_wp2_with(go_at_call 404;(with_reducible refine cK.out.mono ?_);rintro e w2 ⟨rfl,rfl⟩)
    have hJ3:=hJ2.out;generalize(wr.alloc (.cells #[.int .i64 f1,.int .i64 f2,.int .u64 f3,.string f4] 100))=W2 at*;generalize wr.heap.size=fb at*;obtain⟨⟨s0,s1,s2⟩,m0,m1,m2,_⟩:=q3 hJ3.res;obtain⟨⟨v0,v1,v2⟩,n0,n1,n2,_⟩:=q3 hJ3.val;clear hJ2 hbx cK;replace hJ3:=af hJ3;by_cases hkd:f2=kd
    ·subst hkd
     rw[if_neg (by simp)]at hst;have qd:(f2 !=f2)=false:=by simp
     obtain⟨tx,htx⟩: ∃tx,((kk:Int)==6||(kk:Int)==7)=tx:=⟨_,rfl⟩;rw[htx]at hst cT;change Hid _ at htx;obtain⟨lm,hlm⟩: ∃lm,zm (kk:Int)=lm:=⟨_,rfl⟩;rw[hlm]at hst cL;change Hid _ at hlm;by_cases hov:tx=false/\lm<f3
     ·obtain⟨rfl,hov⟩:=hov
      have hdv:decide (lm<f3)=true:=by simpa using hov
      rw[hdv]at hst;simp only[Bool.not_false,Bool.and_self,if_true]at hst;subst hst;clear hov;go_quiet(fail)
      go_wp2_with fail
      have uj:QM w (W2.drewN nq) rb vb base raw l none k v:=⟨hJ3.out.own.drewN nq,hJ3.out.res,hJ3.out.val,hJ3.out.now⟩;have D0:(W2.drewN nq).cell? ⟨fb,0,none⟩=_:=d0;have D2:(W2.drewN nq).cell? ⟨fb,2,none⟩=_:=d2;have D3:(W2.drewN nq).cell? ⟨fb,3,none⟩=_:=d3;clear d0 d1 d2 d3 t0 s0 s1 s2 m0 m1 m2 v0 v1 v2 n0 n1 n2 hJ3 qd;generalize W2.drewN nq=W3 at*;obtain⟨⟨s0,s1,s2⟩,m0,m1,m2,_⟩:=q3 uj.res;obtain⟨⟨v0,v1,v2⟩,n0,n1,n2,_⟩:=q3 uj.val;have hJ3:=af uj;clear uj;go_quiet((first|(go_at_call 405;exact Calls.quiet_of_same ((cT.out _).mono (fun _ _ h=>⟨h.1,h.2.symm⟩)))|(go_at_call 406;exact Calls.quiet_of_same ((cL.out _).mono (fun _ _ h=>⟨h.1,h.2.symm⟩)))))
      go_wp2_with fail
      have hr3:(W3.drewN nq).heap[rb]?=_:=hJ3.out.res;obtain⟨hset,jo⟩:=jJ hr3 (.int .i64 0) (.int .u64 0) (.string ⟨#[]⟩);obtain⟨⟨g0,g1,g2⟩,_⟩:=q3 hset;have hO2:=(hJ3.out.own.drewN nq).trans' jo (fun x hx=>.inr (by simp at hx;omega));exact bodyPost_ret (v:=.tuple #[.agg #[.int .i64 0,.int .u64 0,.string ⟨#[]⟩],.int .i64 5]) (by simp[results,Tryz.results395,go_sem,g0,g1,g2];try rfl) rfl ⟨⟨PV.zero,5,by decide,rfl⟩,hO2⟩
     ·have hdv:(!tx&&decide (lm<f3))=false:=by
       cases tx
       ·have: ¬lm<f3:=fun h=>hov ⟨rfl,h⟩
        simpa using this
       ·rfl
      rw[hdv]at hst;simp only[Bool.false_eq_true,if_false]at hst;change Hid _ at hst;cases tx
      ·have ah9:decide (lm<f3)=false:=by simpa using hdv
       clear hdv hov;go_quiet(fail)
       go_wp2_with fail
       have uj:QM w (W2.drewN nq) rb vb base raw l R k v:=⟨hJ3.out.own.drewN nq,hJ3.out.res,hJ3.out.val,hJ3.out.now⟩;have D0:(W2.drewN nq).cell? ⟨fb,0,none⟩=_:=d0;have D2:(W2.drewN nq).cell? ⟨fb,2,none⟩=_:=d2;have D3:(W2.drewN nq).cell? ⟨fb,3,none⟩=_:=d3;clear d0 d1 d2 d3 t0 s0 s1 s2 m0 m1 m2 v0 v1 v2 n0 n1 n2 hJ3 qd;generalize W2.drewN nq=W3 at*;obtain⟨⟨s0,s1,s2⟩,m0,m1,m2,_⟩:=q3 uj.res;obtain⟨⟨v0,v1,v2⟩,n0,n1,n2,_⟩:=q3 uj.val;have hJ3:=af uj;clear uj;go_quiet((first|(go_at_call 405;exact Calls.quiet_of_same ((cT.out _).mono (fun _ _ h=>⟨h.1,h.2.symm⟩)))|(go_at_call 406;exact Calls.quiet_of_same ((cL.out _).mono (fun _ _ h=>⟨h.1,h.2.symm⟩)))))
       go_wp2_with fail
       have hr3:(W3.drewN nq).heap[vb]?=_:=hJ3.out.val;obtain⟨hset,jo⟩:=jJ hr3 (.int .i64 (kk:Int)) (.int .u64 f3) (.string f4);have hO2:=(hJ3.out.own.drewN nq).trans' jo (fun x hx=>.inr (by simp at hx;omega));have hr2:=jo.heap (show(W3.drewN nq).heap[rb]?=_ from hJ3.out.res) (by simp;omega);have mO:=af (show QM w _ rb vb base raw l R (k+1) ⟨(kk:Int),f3,f4⟩from⟨hO2,hr2,hset,hst.out⟩);go_roundg(l.length-(k+1))
       case measure=>omega
       case rel=>exact⟨k+1,_,by omega,rfl,by simp,mO.out⟩
      ·clear hdv hov
       go_quiet(fail)
       go_wp2_with fail
       have uj:QM w (W2.drewN nq) rb vb base raw l R k v:=⟨hJ3.out.own.drewN nq,hJ3.out.res,hJ3.out.val,hJ3.out.now⟩;have D0:(W2.drewN nq).cell? ⟨fb,0,none⟩=_:=d0;have D2:(W2.drewN nq).cell? ⟨fb,2,none⟩=_:=d2;have D3:(W2.drewN nq).cell? ⟨fb,3,none⟩=_:=d3;clear d0 d1 d2 d3 t0 s0 s1 s2 m0 m1 m2 v0 v1 v2 n0 n1 n2 hJ3 qd;generalize W2.drewN nq=W3 at*;obtain⟨⟨s0,s1,s2⟩,m0,m1,m2,_⟩:=q3 uj.res;obtain⟨⟨v0,v1,v2⟩,n0,n1,n2,_⟩:=q3 uj.val;have hJ3:=af uj;clear uj;go_quiet((first|(go_at_call 405;exact Calls.quiet_of_same ((cT.out _).mono (fun _ _ h=>⟨h.1,h.2.symm⟩)))|(go_at_call 406;exact Calls.quiet_of_same ((cL.out _).mono (fun _ _ h=>⟨h.1,h.2.symm⟩)))))
       go_wp2_with fail
       have hr3:(W3.drewN nq).heap[vb]?=_:=hJ3.out.val;obtain⟨hset,jo⟩:=jJ hr3 (.int .i64 (kk:Int)) (.int .u64 f3) (.string f4);have hO2:=(hJ3.out.own.drewN nq).trans' jo (fun x hx=>.inr (by simp at hx;omega));have hr2:=jo.heap (show(W3.drewN nq).heap[rb]?=_ from hJ3.out.res) (by simp;omega);have mO:=af (show QM w _ rb vb base raw l R (k+1) ⟨(kk:Int),f3,f4⟩from⟨hO2,hr2,hset,hst.out⟩);go_roundg(l.length-(k+1))
       case measure=>omega
       case rel=>exact⟨k+1,_,by omega,rfl,by simp,mO.out⟩
    ·rw[if_pos hkd]at hst
     simp only at hst;subst hst;have qd:(f2 !=kd)=true:=by simpa using hkd
     clear cT cL v0 v1 v2 n0 n1 n2;go_quiet(fail)
     go_wp2_with fail
     have hr3:(W2.drewN nq).heap[rb]?=_:=hJ3.out.res;obtain⟨hset,jo⟩:=jJ hr3 (.int .i64 0) (.int .u64 0) (.string ⟨#[]⟩);obtain⟨⟨g0,g1,g2⟩,_⟩:=q3 hset;have hO2:=(hJ3.out.own.drewN nq).trans' jo (fun x hx=>.inr (by simp at hx;omega));exact bodyPost_ret (v:=.tuple #[.agg #[.int .i64 0,.int .u64 0,.string ⟨#[]⟩],.int .i64 4]) (by simp[results,Tryz.results395,go_sem,g0,g1,g2];try rfl) rfl ⟨⟨PV.zero,4,by decide,rfl⟩,hO2⟩
  ·have k1: ¬(k:Int)<l.length:=by omega
   have tF:=hJ.now;rw[List.drop_of_length_le (by omega)]at tF;have hR:R=some v:=tF.symm;subst hR;obtain⟨⟨v0,v1,v2⟩,_⟩:=q3 hJ.val;obtain⟨hset,jo⟩:=jJ hJ.res (.int .i64 v.k) (.int .u64 v.n) (.string v.s);have hO2:=af (hJ.own.trans' jo (fun x hx=>.inr (by simp at hx;omega)));change Hid _ at hset;clear hJ h hJ0 tF jo hf;go_wp2_with fail
   obtain⟨⟨g0,g1,g2⟩,_⟩:=q3 hset.out;exact bodyPost_ret (v:=.tuple #[.agg #[.int .i64 v.k,.int .u64 v.n,.string v.s],.int .i64 0]) (by simp[results,Tryz.results395,go_sem,g0,g1,g2];try rfl) rfl ⟨rfl,hO2.out⟩
end Go.Proofs.YtedcakchekaemaaGreatDoor
