import Derived.Test.YtedcakchekaemaaGreatDoorMn02
import Derived.Test.YtedcakchekaemaaGreatDoorShelf
set_option maxRecDepth 100000
set_option maxHeartbeats 16000000
set_option linter.all false
namespace Go.Proofs.YtedcakchekaemaaGreatDoor
open Go.RowKit
section
variable {α : Type} {enc : α → List Value} {k : Nat} {P : Program}
theorem FK{ops:Array Oper}{o:Oper}{a:Act}{K:Act->World->Prop}{Q:Exit->Act->World->Prop}{E:Prop}(hgd:o.guard=none)(s x:Operand){t T:TypeId}(ho:o.op=.call {callee:=.builtin .append,args:=#[s,x],argTypes:=#[t,t]})
  {bytes:Nat}(E1:je P t T enc k bytes){W w:World}(hW:ai [] W w){v sv:Value}{l l2:List α}(hs:a.eval s=v)(hv:Sl T enc k W.heap.size w v l)(hx:a.eval x=sv)(hsv:aA enc w sv l2)
  (hlen:(l.length+l2.length)*bytes<=140737488355328)(hmax:l.length+l2.length<=maxLen)
  (h: ∀v' w',Sl T enc k W.heap.size w' v' (l++l2)->ai [] W w'->(∀g,v'.ownBlock=some g->v.ownBlock=some g\/w.heap.size<=g)->ai v.ownBlock.toList w w'->K (a.put o.dst v') w'):
  if Region.wanted o (yielded ops a.tmps)=true then Oper.wp P o a w K Q else E:=by
 have hw:Region.wanted o (yielded ops a.tmps)=true:=by simp[Region.wanted,hgd]
 rw[if_pos hw];obtain⟨v',w',hr,h2,h3,h4,h5,h6⟩:=jO (P:=P) E1 o.type hW hv hsv hlen hmax;unfold Oper.wp execOp;simp only[ho,resolve,invoke,builtin,Sem.run_bind,Sem.run_pure,Result.andThen_ok,List.map_toArray,List.map_cons,List.map_nil,hs,hx,hr];exact h v' w' h2 h3 h5 h6
theorem NU{ops:Array Oper}{o:Oper}{a:Act}{w:World}{K:Act->World->Prop}{Q:Exit->Act->World->Prop}{E:Prop}(hgd:o.guard=none)(f:FuncId)(args:Array Operand)(tys:Array TypeId)(ho:o.op=.call {callee:=.value (.func f),args:=args,argTypes:=tys})
  {vs:Array Value}(hvs:args.map a.eval=vs)(hent: ∀args w,(callFunc f args).run P w=.ok (.enter f args) w){R:Value->World->Prop}(hC:Calls P f vs w fun e w'=> ∃v,e=.returned v/\R v w')(h: ∀v w',R v w'->K (a.put o.dst v) w'):
  if Region.wanted o (yielded ops a.tmps)=true then Oper.wp P o a w K Q else E:=by
 have hw:Region.wanted o (yielded ops a.tmps)=true:=by simp[Region.wanted,hgd]
 rw[if_pos hw];have hr:(execOp a.eval o).run P w=.ok (.enter f vs) w:=by
  unfold execOp;simp[ho,resolve,invoke,Act.eval,hent,Deferred.ofValue];exact hvs
 unfold Oper.wp;rw[hr,Oper.upon_enter];refine hC.mono ?_;rintro e w' ⟨v,rfl,hR⟩;exact h v w' hR
end
end Go.Proofs.YtedcakchekaemaaGreatDoor
namespace Go.Proofs
open Go.RowKit Go.Shelf Go.Lib
namespace YtedcakchekaemaaGreatDoor
def jG(w:World):Prop:=Lib.Utf8Tabs (Tryz.laysValid_ren.g 3) (Tryz.laysValid_ren.g 4) w
theorem jG.below{w w':World}(h:jG w)(hb:Below w.heap.size w w'):jG w':=Utf8Tabs_below h hb
theorem jG.own{S:List Nat}{w w':World}(h:jG w)(hb:ai S w w')(hs: ∀x∈S,w.heap.size<=x):jG w':=h.below (hb.below (Nat.le_refl _) hs)
theorem jG.drew{w:World}(h:jG w):jG w.drew:=h
def gL(p:Nat->Bool)(s:ByteArray):Nat->Nat->Bool
 |0,_=>false
 |f+1,i=>if i<s.size then p (Utf8.decode s i).1||gL p s f (i+(Utf8.decode s i).2)else false
theorem qC(s:ByteArray)(i:Nat)(h:i<s.size):1<=(Utf8.decode s i).2:=by
 by_cases ha:(s[i]'h).toNat<128
 ·rw[decode_ascii s i h ha];exact Nat.le_refl 1
 ·exact(decode_high s i h (by omega)).2
theorem lF(p:Nat->Bool)(s:ByteArray)(f i:Nat)(h: ¬i<s.size):gL p s f i=false:=by
 cases f with
 |zero=>rfl
 |succ f=>simp[gL,h]
theorem sO(p:Nat->Bool)(s:ByteArray): ∀(f g i:Nat),s.size<=i+f->s.size<=i+g->gL p s f i=gL p s g i
 |0,g,i,h1,_=>by rw[lF p s g i (by omega)];rfl
 |f+1,0,i,_,h2=>by rw[lF p s (f+1) i (by omega)];rfl
 |f+1,g+1,i,h1,h2=>by
  simp only[gL];by_cases hi:i<s.size
  ·have hw:=qC s i hi
   rw[if_pos hi,if_pos hi,sO p s f g _ (by omega) (by omega)]
  ·rw[if_neg hi,if_neg hi]
theorem sP(p:Nat->Bool)(s:ByteArray)(i:Nat)(h:i<s.size):gL p s s.size i=(p (Utf8.decode s i).1||gL p s s.size (i+(Utf8.decode s i).2)):=by
 have hw:=qC s i h;rw[sO p s s.size (s.size+1) i (by omega) (by omega)];simp only[gL];rw[if_pos h]
def zu(c:Nat):Bool:=c==0
def rQ(c:Nat):Bool:=c==43||c==35
def pE(s:ByteArray):Bool:= !(decide (65535<s.size)|| !(Lib.validD s.data.toList))&& !(gL zu s s.size 0)
def Aq(s:ByteArray):Bool:=gL rQ s s.size 0
def oq(s:ByteArray):Bool:= !(s.toList.isEmpty||decide (96<s.size)|| !(pE s))&&decide (Lib.countByte s.data.toList 47<12)
def lZ(s:ByteArray):Bool:=oq s&& !(Aq s)
theorem Nf(s:ByteArray)(w:World):
  Calls Tryz.prog 161 #[.string s] w fun e w'=>e=.returned (.bool (Aq s))/\ai [] w w':=by
 obtain⟨ANS,hANS⟩: ∃ANS,Aq s=ANS:=⟨_,rfl⟩;rw[hANS];go_enter Tryz.func161,Tryz.ntmps161
 go_wp2
 go_loopg[4] (s.size+1) (fun g _ wr=> ∃i:Nat,wr=w.iter s i/\g=s.size+1-i/\Aside (gL rQ s s.size i=ANS))
 case atStart=>exact⟨0,rfl,rfl,hANS⟩
 case round=>
  obtain⟨i,rfl,hg,hA⟩:=hrel;replace hA:=hA.out;by_cases hi:i<s.size
  ·have hnx: ∀ty,(Instr.next (.pointer (some ⟨w.heap.size,0,none⟩)) true ty).run Tryz.prog (w.iter s i)=_:=fun ty=>run_next_any w s i ty hi
   have hw:=qC s i hi;rw[sP rQ s i hi]at hA;change Hid _ at hw hg;cases hc:rQ (Utf8.decode s i).1
   ·have h43:((((Utf8.decode s i).1:Nat):Int)==43)=false:=by simp[rQ]at hc;simp;omega
    have h35:((((Utf8.decode s i).1:Nat):Int)==35)=false:=by simp[rQ]at hc;simp;omega
    rw[hc,Bool.false_or]at hA;change Hid _ at hA;go_wp2
    go_roundg(s.size+1-(i+(Utf8.decode s i).2))
    case measure=>have:=hw.out;have:=hg.out;omega
    case rel=>exact⟨_,rfl,rfl,hA.out⟩
   ·rw[hc,Bool.true_or]at hA
    subst hA;by_cases h4:(Utf8.decode s i).1=43
    ·have h43:((((Utf8.decode s i).1:Nat):Int)==43)=true:=by simp;omega
     change Hid _ at h4;go_wp2
     go_ret
     exact⟨rfl,(ai.refl [] w).alloc _⟩
    ·have h43:((((Utf8.decode s i).1:Nat):Int)==43)=false:=by simp;omega
     have h35:((((Utf8.decode s i).1:Nat):Int)==35)=true:=by simp[rQ]at hc;simp;omega
     change Hid _ at h4;go_wp2
     go_ret
     exact⟨rfl,(ai.refl [] w).alloc _⟩
  ·have hnx: ∀ty,(Instr.next (.pointer (some ⟨w.heap.size,0,none⟩)) true ty).run Tryz.prog (w.iter s i)=_:=fun ty=>run_next_end w s i ty hi
   rw[lF _ _ _ _ hi]at hA;subst hA;go_wp2
   go_ret
   exact⟨rfl,(ai.refl [] w).alloc _⟩
theorem Jz(s:ByteArray)(w:World)(hT:jG w):
  Calls Tryz.prog 208 #[.string s] w fun e w'=>e=.returned (.bool (pE s))/\ai [] w w':=by
 obtain⟨ANS,hANS⟩: ∃ANS,pE s=ANS:=⟨_,rfl⟩;rw[hANS];unfold pE at hANS;by_cases h65:65535<s.size
 ·have h:(65535:Int)<(s.size:Int):=by omega
  simp only[h65,decide_true,Bool.true_or,Bool.not_true,Bool.false_and]at hANS;subst hANS;clear h65;go_enter Tryz.func208,Tryz.ntmps208
  go_wp2
  go_ret
  exact⟨rfl,ai.refl _ _⟩
 ·have h: ¬(65535:Int)<(s.size:Int):=by omega
  have cV:Calls Tryz.prog 252 #[.string s] w _:=Any.utf8_ValidString Tryz.laysValid s w (by omega) hT;simp only[h65,decide_false,Bool.false_or,Bool.not_not]at hANS;generalize Lib.validD s.data.toList=V at cV hANS;clear h65;cases V
  ·rw[Bool.false_and]at hANS
   subst hANS;replace cV:=af cV;go_enter Tryz.func208,Tryz.ntmps208
   go_wp2_with(go_at_call 252;refine cV.out.mono ?_;rintro e w1 ⟨rfl,hb⟩)
   go_ret
   exact⟨rfl,ai.of_below hb (Nat.le_refl _)⟩
  ·rw[Bool.true_and]at hANS
   change Hid _ at hANS;replace cV:=af cV;go_enter Tryz.func208,Tryz.ntmps208
   go_wp2_with(go_at_call 252;refine cV.out.mono ?_;rintro e w1 ⟨rfl,hb⟩)
   change Hid _ at hb;go_loopg[4] (s.size+1) (fun g _ wr=> ∃i:Nat,wr=w1.iter s i/\g=s.size+1-i/\Aside ((!(gL zu s s.size i))=ANS))
   case atStart=>exact⟨0,rfl,rfl,hANS.out⟩
   case round=>
    obtain⟨i,rfl,hg,hA⟩:=hrel;replace hA:=hA.out;by_cases hi:i<s.size
    ·have hnx: ∀ty,(Instr.next (.pointer (some ⟨w1.heap.size,0,none⟩)) true ty).run Tryz.prog (w1.iter s i)=_:=fun ty=>run_next_any w1 s i ty hi
     have hw:=qC s i hi;rw[sP zu s i hi]at hA;change Hid _ at hw hg;cases hc:zu (Utf8.decode s i).1
     ·have h0:((((Utf8.decode s i).1:Nat):Int)==0)=false:=by simp[zu]at hc;simp;omega
      rw[hc,Bool.false_or]at hA;change Hid _ at hA;go_wp2
      go_roundg(s.size+1-(i+(Utf8.decode s i).2))
      case measure=>have:=hw.out;have:=hg.out;omega
      case rel=>exact⟨_,rfl,rfl,hA.out⟩
     ·rw[hc,Bool.true_or,Bool.not_true]at hA
      subst hA;have h0:((((Utf8.decode s i).1:Nat):Int)==0)=true:=by simp[zu]at hc;simp;omega
      go_wp2
      go_ret
      exact⟨rfl,(ai.of_below hb.out (Nat.le_refl _)).alloc _⟩
    ·have hnx: ∀ty,(Instr.next (.pointer (some ⟨w1.heap.size,0,none⟩)) true ty).run Tryz.prog (w1.iter s i)=_:=fun ty=>run_next_end w1 s i ty hi
     rw[lF _ _ _ _ hi,Bool.not_false]at hA;subst hA;go_wp2
     go_ret
     exact⟨rfl,(ai.of_below hb.out (Nat.le_refl _)).alloc _⟩
theorem JA(s:ByteArray)(w:World)(hT:jG w):
  Calls Tryz.prog 160 #[.string s] w fun e w'=>e=.returned (.bool (oq s))/\ai [] w w':=by
 obtain⟨ANS,hANS⟩: ∃ANS,oq s=ANS:=⟨_,rfl⟩;rw[hANS];unfold oq at hANS;cases h0:s.toList.isEmpty
 ·by_cases h96:96<s.size
  ·have h:(96:Int)<(s.size:Int):=by omega
   simp only[h0,h96,decide_true,Bool.true_or,Bool.or_true,Bool.not_true,Bool.false_and]at hANS;subst hANS;clear h96;go_enter Tryz.func160,Tryz.ntmps160
   go_wp2
   go_ret
   exact⟨rfl,ai.refl _ _⟩
  ·have h: ¬(96:Int)<(s.size:Int):=by omega
   have cR:=Jz s w hT;have cC: ∀w',Calls Tryz.prog 86 #[.string s,.string ⟨#[47]⟩] w' _:=fun w'=>Any.strings_Count_one Tryz.laysCount s 47 w'
   simp only[h0,h96,decide_false,Bool.false_or,Bool.not_not]at hANS;generalize pE s=V at cR hANS;generalize Lib.countByte s.data.toList 47=C at cC hANS;clear h96;change Hid _ at cC;replace cR:=af cR;cases V
   ·rw[Bool.false_and]at hANS
    subst hANS;go_enter Tryz.func160,Tryz.ntmps160
    go_wp2_with(go_at_call 208;refine cR.out.mono ?_;rintro e w1 ⟨rfl,hb⟩)
    go_ret
    exact⟨rfl,hb⟩
   ·rw[Bool.true_and]at hANS
    have hC:decide ((C:Int)<12)=ANS:=by rw[<-hANS];congr 1;simp;omega
    change Hid _ at hANS;go_enter Tryz.func160,Tryz.ntmps160
    go_wp2_with(first|(go_at_call 208;refine cR.out.mono ?_;rintro e w1 ⟨rfl,hb⟩)|(go_at_call 86;refine(cC.out _).mono ?_;rintro e w2 ⟨rfl,rfl⟩))
    all_goals go_ret
    all_goals(refine⟨?_,by first|exact hb|exact hb.drew⟩;simp_all)
 ·simp only[h0,Bool.true_or,Bool.not_true,Bool.false_and]at hANS
  subst hANS;go_enter Tryz.func160,Tryz.ntmps160
  go_wp2
  go_ret
  exact⟨rfl,ai.refl _ _⟩
theorem BR(s:ByteArray)(w:World)(hT:jG w):
  Calls Tryz.prog 91 #[.string s] w fun e w'=>e=.returned (.bool (lZ s))/\ai [] w w':=by
 have cS:=JA s w hT;have cW: ∀w',Calls Tryz.prog 161 #[.string s] w' _:=fun w'=>Nf s w'
 unfold lZ;generalize oq s=V at cS⊢;generalize Aq s=V' at cW⊢;change Hid _ at cW;replace cS:=af cS;go_enter Tryz.func91,Tryz.ntmps91
 cases V
 ·go_wp2_with(go_at_call 160;refine cS.out.mono ?_;rintro e w1 ⟨rfl,hb⟩)
  go_ret
  exact⟨rfl,hb⟩
 ·go_wp2_with(first|(go_at_call 160;refine cS.out.mono ?_;rintro e w1 ⟨rfl,hb⟩)|(go_at_call 161;refine(cW.out _).mono ?_;rintro e w2 ⟨rfl,hb2⟩))
  go_ret
  exact⟨rfl,hb.trans hb2⟩
end YtedcakchekaemaaGreatDoor
end Go.Proofs
