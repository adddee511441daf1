/- Contracts of the program, part 18. -/
import Derived.Test.YtedcakchekaemaaGreatDoorMp14
import Derived.Test.YtedcakchekaemaaGreatDoorMp15
set_option maxRecDepth 100000
set_option maxHeartbeats 16000000
set_option linter.all false
namespace Go.Proofs.YtedcakchekaemaaGreatDoor
open Go.RowKit
def fE(s:jv):ByteArray×Int:=
 if s.k<1\/9<s.k then(⟨#[]⟩,11)
 else if(fJ s.k<5/\s.d.size≠0)\/(s.k=9/\s.g.size≠0)then(⟨#[]⟩,4)
 else if(iM s).all gP=false then(⟨#[]⟩,13)
 else if jq (nk (ny s))=true then(nk (ny s),0)else(⟨#[]⟩,13)
def GK(r:ByteArray×Int)(e:Ending):Prop:=e=.returned (.tuple #[.string r.1,.int .i64 r.2])
theorem qW(n:Int):GK (⟨#[]⟩,n) (.returned (.tuple #[.string ⟨#[]⟩,.int .i64 n])):=rfl
theorem Vk(s:ByteArray):GK (s,0) (.returned (.tuple #[.string s,.int .i64 0])):=rfl
theorem fO{s:ByteArray}(h:gP s=true):s.size<=96:=by
 unfold gP jq ng at h;simp at h;omega
theorem DK: ∀l:List (List UInt8),(Lib.join l [47]).length<=(l.map List.length).sum+l.length
 | []=>by simp[Lib.join]
 | [x]=>by simp[Lib.join]
 |x::y::t=>by
  have:=DK (y::t);rw[GI];simp at this⊢;omega
theorem GL(xs:List ByteArray):(nk xs).size<=(xs.map ByteArray.size).sum+xs.length:=by
 have:=DK (xs.map (·.data.toList));unfold nk;rw[Lib.size_eq];simp only[List.map_map,List.length_map]at this;have e:(List.length∘fun x:ByteArray=>x.data.toList)=ByteArray.size:=by funext x;exact(Lib.size_eq x).symm
 rw[e]at this;exact this
theorem DL(k:Int):(gu k).size<=6:=by
 unfold gu
 repeat(first|(split; · decide)|decide)
theorem DN{s:jv}(h:(iM s).all gP=true):(nk (ny s)).size<=1000:=by
 have h1:=GL (ny s);have hw:=DL s.k;have hr:om.size=7:=rfl;have ht:yN.size=5:=rfl;unfold ny at h1⊢;unfold iM at h;split at h
 ·rename_i h9
  rw[if_pos h9]at h1⊢;simp at h h1;have:=fO h;omega
 ·rename_i h9
  rw[if_neg h9]at h1⊢;split at h
  ·rename_i h5
   rw[if_pos h5]at h1⊢;simp at h h1;have:=fO h.1;have:=fO h.2.1;have:=fO h.2.2;omega
  ·rename_i h5
   rw[if_neg h5]at h1⊢;simp at h h1;have:=fO h.1;have:=fO h.2;omega
theorem sD(x:ByteArray):(x.size=0/\x.toList.isEmpty=true/\x.toList=[])\/(x.size≠0/\x.toList.isEmpty=false):=by
 by_cases h:x.size=0
 ·have:x.toList=[]:=List.eq_nil_of_length_eq_zero (by rw[Lib.toList_data,<-Lib.size_eq];exact h)
  exact .inl ⟨h,by rw[this];rfl,this⟩
 ·refine .inr ⟨h,?_⟩
  rw[List.isEmpty_eq_false_iff];intro e;apply h;rw[Lib.size_eq,<-Lib.toList_data,e];rfl
theorem Ki(s:jv)(w:World)(hW:dL w)(hT:ko w)(hM:qV w):Calls Tryz.prog 52 #[.agg #[.int .i64 s.k,.string s.g,.string s.n,.string s.d]] w fun e w'=>GK (fE s) e/\ai [] w w':=by
 obtain⟨R,hR⟩: ∃R,fE s=R:=⟨_,rfl⟩;rw[hR];unfold fE at hR;have aL:ai [] w (w.alloc (.cells #[.int .i64 s.k,.string s.g,.string s.n,.string s.d] 76)):=(ai.refl _ _).alloc _;have hb:=heap_alloc_new w (.cells #[.int .i64 s.k,.string s.g,.string s.n,.string s.d] 76);obtain⟨f0,f1,f2,f3⟩:=fI hb;have cW:=af (fun W=>AL s.k W);have cP:=af (Lm s (w.alloc (.cells #[.int .i64 s.k,.string s.g,.string s.n,.string s.d] 76)) (hW.own aL));replace aL:=af aL;clear hb;by_cases hk:s.k<1\/9<s.k
 ·rw[if_pos hk]at hR
  subst hR;have hk2:s.k<1\/(¬s.k<1/\9<s.k):=by omega
  clear hk cP cW;rcases hk2 with h|⟨h,h'⟩
  all_goals
   generalize s.k=k at*;go_enter Tryz.func52,Tryz.ntmps52
   go_wp2_with fail
   go_ret2
   exact⟨qW 11,aL.out⟩
 ·rw[if_neg hk]at hR
  have hk1: ¬s.k<1:=fun h=>hk (.inl h)
  have JR: ¬9<s.k:=fun h=>hk (.inr h)
  by_cases h4:(fJ s.k<5/\s.d.size≠0)\/(s.k=9/\s.g.size≠0)
  ·rw[if_pos h4]at hR
   subst hR;obtain⟨wd,hwd⟩: ∃wd,fJ s.k=wd:=⟨_,rfl⟩;have hw9:s.k=9->wd=3:=fun h=>by rw[<-hwd];unfold fJ;rw[if_pos h]
   rw[hwd]at cW h4;rcases sD s.d with⟨d0,d1,d2⟩|⟨d0,d1⟩
   ·have h9:s.k=9/\s.g.size≠0:=by rcases h4 with h|h;exact absurd d0 h.2;exact h
    have w3:=hw9 h9.1;rcases sD s.g with⟨g0,_⟩|⟨g0,g1⟩
    ·exact absurd g0 h9.2
    ·have q1:(s.k==9)=true:=by simpa using h9.1
     rw[w3]at cW;clear h4 hw9 h9 w3 hwd cP hk d0 g0;generalize s.k=k at*;generalize s.d=d at*;generalize s.g=g at*;go_enter Tryz.func52,Tryz.ntmps52
     go_wp2_with(go_at_call 87;((with_reducible refine(cW.out _).mono ?_);rintro e w2 ⟨rfl,rfl⟩))
     go_ret2
     exact⟨qW 4,aL.out⟩
   ·by_cases h5:wd<5
    ·have q1:decide (wd<5)=true:=by simpa using h5
     clear h4 hw9 hwd cP hk d0;generalize s.k=k at*;generalize s.d=d at*;go_enter Tryz.func52,Tryz.ntmps52
     go_wp2_with(go_at_call 87;((with_reducible refine(cW.out _).mono ?_);rintro e w2 ⟨rfl,rfl⟩))
     go_ret2
     exact⟨qW 4,aL.out⟩
    ·exact absurd h4 (by
     rintro(h|h)
     ·exact h5 h.1
     ·have:=hw9 h.1;omega)
  ·rw[if_neg h4]at hR
   obtain⟨wd,hwd⟩: ∃wd,fJ s.k=wd:=⟨_,rfl⟩;rw[hwd]at cW h4;have O9:decide (wd<5)=false\/(decide (wd<5)=true/\s.d.toList.isEmpty=true/\s.d.toList=[]):=by
    by_cases h5:wd<5
    ·rcases sD s.d with⟨d0,d1,d2⟩|⟨d0,d1⟩
     ·exact .inr ⟨by simpa using h5,d1,d2⟩
     ·exact absurd (.inl ⟨h5,d0⟩) h4
    ·exact .inl (by simpa using h5)
   have hC2:(s.k==9)=false\/((s.k==9)=true/\s.g.toList.isEmpty=true/\s.g.toList=[]):=by
    by_cases h9:s.k=9
    ·rcases sD s.g with⟨d0,d1,d2⟩|⟨d0,d1⟩
     ·exact .inr ⟨by simpa using h9,d1,d2⟩
     ·exact absurd (.inr ⟨h9,d0⟩) h4
    ·exact .inl (by simpa using h9)
   have hJ:= @DN s;obtain⟨A,hA⟩: ∃A,ny s=A:=⟨_,rfl⟩;obtain⟨F,hF⟩: ∃F,iM s=F:=⟨_,rfl⟩;rw[hA]at hR hJ cP;rw[hF]at hR hJ cP;have hFl:F.length<=3:=by rw[<-hF];unfold iM;split;simp;split<;>simp
   have hAl:A.length<=5:=by rw[<-hA];unfold ny;split;simp;split<;>simp
   have hst:(F.drop 0).all gP=F.all gP:=by rw[List.drop_zero]
   obtain⟨al,hal⟩: ∃al,F.all gP=al:=⟨_,rfl⟩;rw[hal]at hR hJ hst;change Hid _ at hst hJ hR;clear h4 hwd hk hA hF hal;generalize s.k=k at*;generalize s.g=g at*;generalize s.d=d at*;rcases O9 with c1|⟨c1,c2,c3⟩
   all_goals
    rcases hC2 with k1|⟨k1,k2,k3⟩
    all_goals
     go_enter Tryz.func52,Tryz.ntmps52
     go_wp2_with(first
      |(go_at_call 87;((with_reducible refine(cW.out _).mono ?_);rintro e w2 ⟨rfl,rfl⟩))
      |(go_at_call 88;((with_reducible refine cP.out.mono ?_);rintro e w3 ⟨a1,b1,rfl,uU,hRF,hO3⟩;replace hO3:=af (aL.out.trans hO3);replace uU:=af uU;replace hRF:=af hRF;clear cP cW f0 f1 f2 f3)))
     go_loopg[7,41] F.length (fun g _ s41 wr=> ∃i:Nat,s41=.int .i64 i/\i+g=F.length/\Aside (ai [] w wr/\ai [] w3 wr/\(F.drop i).all gP=al))
     case atStart=>exact⟨0,rfl,by simp,hO3.out,ai.refl _ _,hst.out⟩
     case round=>
      obtain⟨i,rfl,hg,hO,hO4,hF⟩:=hrel;have hw1:IntKind.i64.wrap ((i:Int)+1)=((i+1:Nat):Int):=by rw[IntKind.wrap_i64];omega
      clear hst;by_cases hlt:i<F.length
      ·have h1:(i:Int)<F.length:=by omega
       have h0:(0:Int)<=i:=by omega
       obtain⟨x,hx⟩: ∃x,F[i]?=some x:=⟨_,List.getElem?_eq_getElem hlt⟩;obtain⟨b0,o0,hb0,hC⟩:=(hRF.out.nil' hO4).at_ (k:=1) lM (by omega);cases hb0;have cc:wr.cell? ⟨b1,0+i,none⟩=some (.string x):=by simpa using hC i x 0 (.string x) hx rfl
       rw[Nat.zero_add]at cc;have hd:F.drop i=x::F.drop (i+1):=by
        obtain⟨hl,rfl⟩:=List.getElem?_eq_some_iff.1 hx;exact List.drop_eq_getElem_cons hl
       rw[hd,List.all_cons]at hF;have cX:=af (Pz x wr (hT.own hO (by simp)) (hM.own hO));change Hid _ at hg hx hd;replace hO:=af hO;replace hO4:=af hO4;clear hC;cases hp:gP x with
       |false=>
        rw[hp]at hF cX;have ha:al=false:=by rw[<-hF];rfl
        have e1:R=(⟨#[]⟩,13):=by rw[<-hR.out,if_pos ha]
        change Hid _ at e1;clear hF hp ha;go_wp2_with fail
        with_reducible refine cX.out.mono ?_
        rintro e w5 ⟨rfl,aF⟩;replace aF:=af (hO.out.trans aF);go_wp2_with fail
        go_ret2
        exact⟨by rw[e1.out];exact qW 13,aF.out⟩
       |true=>
        rw[hp]at hF cX;have hF2:=af (show(F.drop (i+1)).all gP=al by rw[<-hF];simp);clear hF hp;go_wp2_with fail
        with_reducible refine cX.out.mono ?_
        rintro e w5 ⟨rfl,aF⟩;have bI:=af (hO4.out.trans aF);replace aF:=af (hO.out.trans aF);go_wp2_with fail
        go_roundg(F.length-(i+1))
        case rel=>exact⟨i+1,by go_num,by omega,aF.out,bI.out,hF2.out⟩
        case measure=>have:=hg.out;omega
      ·have h1: ¬(i:Int)<F.length:=by omega
       rw[List.drop_of_length_le (by omega)]at hF;have ha:al=true:=by rw[<-hF];rfl
       have eR:R=if jq (nk A)=true then(nk A,0)else(⟨#[]⟩,13):=by rw[<-hR.out,if_neg (by rw[ha];simp)]
       have cJ:=af (Py A _ wr (uU.out.nil' hO4) (fun a n c e=>by cases e;exact Nat.le_refl _) (by omega) (hJ.out ha));have cM:=af (fun W (h:ko W)=>DC (nk A) W h);replace hO:=af hO;clear hF hg ha hO4;cases hn:jq (nk A)with
       |false=>
        rw[hn]at eR cM;change Hid _ at eR;go_wp2_with fail
        with_reducible refine cJ.out.mono ?_
        rintro e w5 ⟨rfl,aF⟩;replace aF:=af (hO.out.trans aF);go_wp2_with fail
        with_reducible refine(cM.out _ (by exact hT.own aF.out (by simp))).mono ?_
        rintro e w6 ⟨rfl,bI⟩;replace bI:=af (aF.out.trans bI);go_wp2_with fail
        go_ret2
        exact⟨by rw[eR.out,if_neg (by simp)];exact qW 13,bI.out⟩
       |true=>
        rw[hn]at eR cM;change Hid _ at eR;go_wp2_with fail
        with_reducible refine cJ.out.mono ?_
        rintro e w5 ⟨rfl,aF⟩;replace aF:=af (hO.out.trans aF);go_wp2_with fail
        with_reducible refine(cM.out _ (by exact hT.own aF.out (by simp))).mono ?_
        rintro e w6 ⟨rfl,bI⟩;replace bI:=af (aF.out.trans bI);go_wp2_with fail
        go_ret2
        exact⟨by rw[eR.out,if_pos trivial];exact Vk _,bI.out⟩
end Go.Proofs.YtedcakchekaemaaGreatDoor
namespace Go.Proofs.YtedcakchekaemaaGreatDoor
open Go.RowKit
variable [Kd]
theorem xE(f:bN)(most:Int)(w:World):
  Calls Tryz.prog 418 #[.agg (fL f).toArray,.int .u64 most] w (fu (f.kind==0&&decide (f.val<=most)) f.val w):=by
 obtain⟨n,k,v,t⟩:=f;unfold fL;have hO:=(ai.refl [] w).alloc (.cells #[.int .i64 n,.int .i64 k,.int .u64 v,.string t] 100);show Calls _ _ _ _ (fu (k==0&&decide (v<=most)) v w);by_cases h0:k=0
 ·subst h0
  by_cases hv:v<=most
  ·have q:decide (v<=most)=true:=by simpa using hv
   have hv': ¬most<v:=by omega
   rw[q];go_enter Tryz.func418,Tryz.ntmps418
   go_wp2_with fail
   go_ret2
   exact⟨rfl,hO⟩
  ·have q:decide (v<=most)=false:=by simpa using hv
   have hv':most<v:=by omega
   rw[q];go_enter Tryz.func418,Tryz.ntmps418
   go_wp2_with fail
   go_ret2
   exact⟨⟨5,by decide,rfl⟩,hO⟩
 ·have q:(k==0)=false:=by simpa using h0
  rw[q];go_enter Tryz.func418,Tryz.ntmps418
  go_wp2_with fail
  go_ret2
  exact⟨⟨4,by decide,rfl⟩,hO⟩
structure Fo where
 key:ByteArray
 ty:Int
 nu:Bool
 v:PV
 set:ByteArray
def yu(x:Fo):Array Value:=#[.string x.key,.int .u32 x.ty,.bool x.nu,.int .i64 x.v.k,.int .u64 x.v.n,.string x.v.s,.slice none 0 0,.string x.set]
def nV(w:World)(b:Nat)(x:Fo):Prop:=w.heap[b]?=some (.cells (yu x) 557 (0,0))
theorem nV.own{S:List Nat}{w w':World}{b:Nat}{x:Fo}(h:nV w b x)(ho:ai S w w')(hb:b∉S):nV w' b x:=ai.heap ho h hb
theorem nV.cell{w:World}{b:Nat}{x:Fo}(h:nV w b x)(i:Nat){u:Value}(hu:(yu x)[i]?=some u):w.cell? ⟨b,i,none⟩=some u/\w.frozen? ⟨b,i,none⟩=false:=
 ⟨by rw[cell_of_row _ _ _ _ _ _ h];exact hu,frozen_of_row _ b i _ _ h⟩
theorem nV.set1{w:World}{b:Nat}{x x':Fo}(h:nV w b x)(i:Nat)(v:Value)(hx:(yu x).setIfInBounds i v=yu x'):nV (w.setCell ⟨b,i,none⟩ v) b x'/\ai [b] w (w.setCell ⟨b,i,none⟩ v):=by
 have h1:=heap_setCell_same w b i _ _ v h;rw[hx]at h1;exact⟨h1,(ai.refl [b] w).setCell (.inl (by simp)) _⟩
theorem nV.set3{w:World}{b:Nat}{x:Fo}(h:nV w b x)(y:PV):nV (((w.setCell ⟨b,3,none⟩ (.int .i64 y.k)).setCell ⟨b,4,none⟩ (.int .u64 y.n)).setCell ⟨b,5,none⟩ (.string y.s)) b {x with v:=y}/\
  ai [b] w (((w.setCell ⟨b,3,none⟩ (.int .i64 y.k)).setCell ⟨b,4,none⟩ (.int .u64 y.n)).setCell ⟨b,5,none⟩ (.string y.s)):=by
 have h1:=heap_setCell_same w b 3 _ _ (.int .i64 y.k) h;have h2:=heap_setCell_same _ b 4 _ _ (.int .u64 y.n) h1;have h3:=heap_setCell_same _ b 5 _ _ (.string y.s) h2;exact⟨by unfold nV;rw[h3];rfl,(((ai.refl [b] w).setCell (.inl (by simp)) _).setCell (.inl (by simp)) _).setCell (.inl (by simp)) _⟩
def Fo.st(x:Fo):Bool×ByteArray:=(x.v.k==8,x.set)
def iJ(t:Option (Bool×ByteArray))(w:World)(b:Nat)(e:Ending)(w':World):Prop:=
 match t with
 |some st=>(e=.returned (.int .i64 0)/\ ∃x:Fo,nV w' b x/\x.st=st)/\ai [b] w w'
 |none=>(∃ec:Int,ec≠0/\e=.returned (.int .i64 ec))/\ai [b] w w'
theorem oL{t:Option (Bool×ByteArray)}{w w':World}{b:Nat}{x:Fo}(ht:t=some x.st)(h:nV w' b x)(ho:ai [b] w w'):iJ t w b (.returned (.int .i64 0)) w':=by rw[ht];exact⟨⟨rfl,x,h,rfl⟩,ho⟩
theorem sJ{t:Option (Bool×ByteArray)}{w w':World}{b:Nat}{ec:Int}(ht:t=none)(h:ec≠0)(ho:ai [b] w w'):iJ t w b (.returned (.int .i64 ec)) w':=by rw[ht];exact⟨⟨ec,h,rfl⟩,ho⟩
theorem VT{n:Int}(h3:3<=n/\n<=8):iQ n 3 false=n-2:=by
 unfold iQ;have: ¬(n-3+1<1\/7<n-3+1\/(n-3+1=7/\false=false)):=by
  rintro(h|h|⟨h,_⟩)<;>omega
 rw[if_neg this];omega
theorem EK{f:bN}(h3:3<=f.num/\f.num<=8){v:PV}(h:jg 3 false PV.zero f=some v):v.k=f.num-2:=by
 unfold jg at h;rw[VT h3,if_neg (by omega)]at h;split at h
 ·cases h
 ·split at h
  ·cases h
  ·simp only[Option.some.injEq]at h
   subst h;rfl
theorem VU(b:Nat)(x:Fo)(k v:Int)(t:ByteArray)(w:World)(h:nV w b x)(h0:0<=v):
  Calls Tryz.prog 413 #[.pointer (some ⟨b,0,none⟩),.agg #[.int .i64 1,.int .i64 k,.int .u64 v,.string t]] w (iJ (dw x.st ⟨1,k,v,t⟩) w b):=by
 have hms:dw x.st ⟨1,k,v,t⟩=if k=0/\v<=4294967295 then some x.st else none:=by simp[dw]
 generalize dw x.st ⟨1,k,v,t⟩=R at hms⊢;have hA:=(ai.refl [] w).alloc (.cells #[.int .i64 1,.int .i64 k,.int .u64 v,.string t] 100);have hF1:=h.own hA (by simp);have hbl:=aj h;obtain⟨⟨d0,d1,d2,d3⟩,_⟩:=q4 (heap_alloc_new w (.cells #[.int .i64 1,.int .i64 k,.int .u64 v,.string t] 100));have cN:=xE ⟨1,k,v,t⟩ 4294967295 (w.alloc (.cells #[.int .i64 1,.int .i64 k,.int .u64 v,.string t] 100));unfold fL at cN;simp only at cN;by_cases hok:k=0/\v<=4294967295
 ·rw[if_pos hok]at hms
  have hb:(k==0&&decide (v<=4294967295))=true:=by simpa using hok
  have hm:v%4294967296=v:=by omega
  rw[hb]at cN;unfold fu at cN;change Hid _ at hms;replace cN:=af cN;replace hA:=af hA;clear hok hb h;go_enter Tryz.func413,Tryz.ntmps413
  go_wp2_with fail
  refine cN.out.mono ?_;rintro e w2 ⟨rfl,hO⟩;have hF2:=hF1.own hO (by simp);have hO2:=hA.out.trans hO;obtain⟨c1,z1⟩:=hF2.cell 1 (u:=.int .u32 x.ty) rfl;obtain⟨xP,hO3⟩:=hF2.set1 (x':={x with ty:=v}) 1 (.int .u32 v) rfl;have hO4:=af (hO2.nil.trans hO3);change Hid _ at xP;clear hF1 hF2 hO hO2 hO3;go_wp2_with fail
  go_ret
  exact oL (x:={x with ty:=v}) hms.out xP.out hO4.out
 ·rw[if_neg hok]at hms
  have hb:(k==0&&decide (v<=4294967295))=false:=by
   rw[Bool.eq_false_iff];intro hh;exact hok (by simpa using hh)
  rw[hb]at cN;unfold fu at cN;change Hid _ at hms;replace cN:=af cN;replace hA:=af hA;clear hok hb h;go_enter Tryz.func413,Tryz.ntmps413
  go_wp2_with fail
  refine cN.out.mono ?_;rintro e w2 ⟨⟨ec,aD,rfl⟩,hO⟩;have hF2:=hF1.own hO (by simp);have hO2:=hA.out.trans hO;obtain⟨c1,z1⟩:=hF2.cell 1 (u:=.int .u32 x.ty) rfl;obtain⟨xP,hO3⟩:=hF2.set1 (x':={x with ty:=0}) 1 (.int .u32 0) rfl;have hO4:=af (hO2.nil.trans hO3);change Hid _ at aD;clear hF1 hF2 hO hO2 hO3 xP;go_wp2_with fail
  go_ret
  exact sJ hms.out aD.out hO4.out
theorem VW(b:Nat)(x:Fo)(k v:Int)(t:ByteArray)(w:World)(h:nV w b x)(h0:0<=v):
  Calls Tryz.prog 413 #[.pointer (some ⟨b,0,none⟩),.agg #[.int .i64 2,.int .i64 k,.int .u64 v,.string t]] w (iJ (dw x.st ⟨2,k,v,t⟩) w b):=by
 have hms:dw x.st ⟨2,k,v,t⟩=if k=0/\v<=1 then some x.st else none:=by simp[dw]
 generalize dw x.st ⟨2,k,v,t⟩=R at hms⊢;have hA:=(ai.refl [] w).alloc (.cells #[.int .i64 2,.int .i64 k,.int .u64 v,.string t] 100);have hF1:=h.own hA (by simp);have hbl:=aj h;obtain⟨⟨d0,d1,d2,d3⟩,_⟩:=q4 (heap_alloc_new w (.cells #[.int .i64 2,.int .i64 k,.int .u64 v,.string t] 100));have cN:=xE ⟨2,k,v,t⟩ 1 (w.alloc (.cells #[.int .i64 2,.int .i64 k,.int .u64 v,.string t] 100));unfold fL at cN;simp only at cN;by_cases hok:k=0/\v<=1
 ·rw[if_pos hok]at hms
  have hb:(k==0&&decide (v<=1))=true:=by simpa using hok
  rw[hb]at cN;unfold fu at cN;change Hid _ at hms;replace cN:=af cN;replace hA:=af hA;clear hok hb h;go_enter Tryz.func413,Tryz.ntmps413
  go_wp2_with fail
  refine cN.out.mono ?_;rintro e w2 ⟨rfl,hO⟩;have hF2:=hF1.own hO (by simp);have hO2:=hA.out.trans hO;obtain⟨c1,z1⟩:=hF2.cell 2 (u:=.bool x.nu) rfl;obtain⟨xP,hO3⟩:=hF2.set1 (x':={x with nu:=v==1}) 2 (.bool (v==1)) rfl;have hO4:=af (hO2.nil.trans hO3);change Hid _ at xP;clear hF1 hF2 hO hO2 hO3;go_wp2_with fail
  go_ret
  exact oL (x:={x with nu:=v==1}) hms.out xP.out hO4.out
 ·rw[if_neg hok]at hms
  have hb:(k==0&&decide (v<=1))=false:=by
   rw[Bool.eq_false_iff];intro hh;exact hok (by simpa using hh)
  rw[hb]at cN;unfold fu at cN;change Hid _ at hms;replace cN:=af cN;replace hA:=af hA;clear hok hb h;go_enter Tryz.func413,Tryz.ntmps413
  go_wp2_with fail
  refine cN.out.mono ?_;rintro e w2 ⟨⟨ec,aD,rfl⟩,hO⟩;have hF2:=hF1.own hO (by simp);have hO2:=hA.out.trans hO;obtain⟨c1,z1⟩:=hF2.cell 2 (u:=.bool x.nu) rfl;obtain⟨xP,hO3⟩:=hF2.set1 (x':={x with nu:=false}) 2 (.bool false) rfl;have hO4:=af (hO2.nil.trans hO3);change Hid _ at aD;clear hF1 hF2 hO hO2 hO3 xP;go_wp2_with fail
  go_ret
  exact sJ hms.out aD.out hO4.out
theorem VX(b:Nat)(x:Fo)(k v:Int)(t:ByteArray)(w:World)(h:nV w b x):
  Calls Tryz.prog 413 #[.pointer (some ⟨b,0,none⟩),.agg #[.int .i64 9,.int .i64 k,.int .u64 v,.string t]] w (iJ (dw x.st ⟨9,k,v,t⟩) w b):=by
 have hms:dw x.st ⟨9,k,v,t⟩=if k=2 then some (true,t)else none:=by simp[dw]
 generalize dw x.st ⟨9,k,v,t⟩=R at hms⊢;have hA:=(ai.refl [] w).alloc (.cells #[.int .i64 9,.int .i64 k,.int .u64 v,.string t] 100);have hF1:=h.own hA (by simp);have hbl:=aj h;obtain⟨⟨d0,d1,d2,d3⟩,_⟩:=q4 (heap_alloc_new w (.cells #[.int .i64 9,.int .i64 k,.int .u64 v,.string t] 100));by_cases hok:k=2
 ·subst hok
  rw[if_pos rfl]at hms;change Hid _ at hms;obtain⟨c3,z3⟩:=hF1.cell 3 (u:=.int .i64 x.v.k) rfl;obtain⟨c4,z4⟩:=hF1.cell 4 (u:=.int .u64 x.v.n) rfl;obtain⟨c5,z5⟩:=hF1.cell 5 (u:=.string x.v.s) rfl;obtain⟨c7,z7⟩:=hF1.cell 7 (u:=.string x.set) rfl;obtain⟨e3,k3⟩:=h.cell 3 (u:=.int .i64 x.v.k) rfl;obtain⟨e4,k4⟩:=h.cell 4 (u:=.int .u64 x.v.n) rfl;obtain⟨e5,k5⟩:=h.cell 5 (u:=.string x.v.s) rfl;obtain⟨e7,k7⟩:=h.cell 7 (u:=.string x.set) rfl;change Hid _ at hA hF1;replace h:=af h;go_enter Tryz.func413,Tryz.ntmps413
  go_wp2_with fail
  go_region
  all_goals
   go_wp2_with fail
   go_ret
   obtain⟨hF2,hO2⟩:=h.out.set3 ⟨8,0,⟨#[]⟩⟩;obtain⟨xP,hO3⟩:=hF2.set1 (x':={x with v:=⟨8,0,⟨#[]⟩⟩,set:=t}) 7 (.string t) rfl;exact oL (x:={x with v:=⟨8,0,⟨#[]⟩⟩,set:=t}) hms.out (xP.own ((ai.refl [] _).alloc _).drew (by simp)) ((hO2.trans hO3).alloc _).drew
 ·rw[if_neg hok]at hms
  have q:(k !=2)=true:=by simpa using hok
  change Hid _ at hms;replace hA:=af (hA.nil (S:=[b]));clear hok h hF1;go_enter Tryz.func413,Tryz.ntmps413
  go_wp2_with fail
  go_ret
  exact sJ hms.out (by decide) hA.out
theorem Ip(b:Nat)(x:Fo)(f:bN)(w:World)(h:nV w b x)(h1:f.num≠1)(h2:f.num≠2)(h9:f.num≠9)(OD: ¬(3<=f.num/\f.num<=8)):
  Calls Tryz.prog 413 #[.pointer (some ⟨b,0,none⟩),.agg (fL f).toArray] w (iJ (dw x.st f) w b):=by
 have hms:dw x.st f=some x.st:=by unfold dw;rw[if_neg h1,if_neg h2,if_neg h9,if_neg OD]
 generalize dw x.st f=R at hms⊢;obtain⟨n,k,v,t⟩:=f;simp only at h1 h2 h9 OD;unfold fL;have hA:=(ai.refl [] w).alloc (.cells #[.int .i64 n,.int .i64 k,.int .u64 v,.string t] 100);have hF1:=h.own hA (by simp);obtain⟨⟨d0,d1,d2,d3⟩,_⟩:=q4 (heap_alloc_new w (.cells #[.int .i64 n,.int .i64 k,.int .u64 v,.string t] 100));have q1:(n==1)=false:=by simpa using h1
 have q2:(n==2)=false:=by simpa using h2
 have q9:(n==9)=false:=by simpa using h9
 change Hid _ at hms hF1;replace hA:=af (hA.nil (S:=[b]));clear h1 h2 h9 h;by_cases h3:3<=n
 ·have h8: ¬n<=8:=fun hh=>OD ⟨h3,hh⟩
  clear OD;go_enter Tryz.func413,Tryz.ntmps413
  go_wp2_with fail
  go_ret
  exact oL hms.out hF1.out hA.out
 ·clear OD
  go_enter Tryz.func413,Tryz.ntmps413
  go_wp2_with fail
  go_ret
  exact oL hms.out hF1.out hA.out
theorem EL(b:Nat)(x:Fo)(f:bN)(w:World)(h:nV w b x)(hf:f.Ok)(hK:aS w)(OD:3<=f.num/\f.num<=8):
  Calls Tryz.prog 413 #[.pointer (some ⟨b,0,none⟩),.agg (fL f).toArray] w (iJ (dw x.st f) w b):=by
 have hms:dw x.st f=(jg 3 false PV.zero f).map fun _=>(false,x.set):=by unfold dw;rw[if_neg (by omega),if_neg (by omega),if_neg (by omega),if_pos OD];rfl
 generalize dw x.st f=R at hms⊢;have hA1:=(ai.refl [] w).alloc (.cells (fL f).toArray 100);have hA:=hA1.alloc (.cells (fL f).toArray 100);have cV:=yg _ [f] 3 false _ (Bg (b:=w.heap.size+1) (heap_alloc2_new w (.cells (fL f).toArray 100) (.cells (fL f).toArray 100)) 1) (by simp) (by simpa using hf) (by omega) (hK.own hA);rw[KG]at cV;have hkk:= @EK _ f OD;obtain⟨⟨d0,d1,d2,d3⟩,_⟩:=q4 (heap_alloc_new w (.cells (fL f).toArray 100));have hF:=h.own hA (by simp);replace hF:=af hF;have hbl:=aj h;unfold vK at cV;unfold fL at*;obtain⟨n,k,v,t⟩:=f;simp only at*;have q1:(n==1)=false:=by rw[beq_eq_false_iff_ne];omega
 have q2:(n==2)=false:=by rw[beq_eq_false_iff_ne];omega
 have q9:(n==9)=false:=by rw[beq_eq_false_iff_ne];omega
 obtain⟨h3,h8⟩:=OD;cases hv:jg 3 false PV.zero ⟨n,k,v,t⟩with
 |none=>
  rw[hv]at cV hms;simp only[Option.map_none]at hms;replace hms:=af hms;replace cV:=af cV;replace hA:=af hA;clear hv hA1 hf hK h hkk;go_enter Tryz.func413,Tryz.ntmps413
  go_wp2_with fail
  refine cV.out.mono ?_;rintro e w2 ⟨⟨y,ec,aD,rfl⟩,hO⟩;unfold PV.val;obtain⟨y1,y2,y3⟩:=y;simp only;have hF2:=hF.out.own hO (by simp);obtain⟨c3,z3⟩:=hF2.cell 3 (u:=.int .i64 x.v.k) rfl;obtain⟨c4,z4⟩:=hF2.cell 4 (u:=.int .u64 x.v.n) rfl;obtain⟨c5,z5⟩:=hF2.cell 5 (u:=.string x.v.s) rfl;obtain⟨xP,hO3⟩:=hF2.set3 ⟨y1,y2,y3⟩;have hO4:=af ((hA.out.trans hO).nil.trans hO3);change Hid _ at aD;clear hF hF2 hO hO3 xP;go_wp2_with fail
  go_ret
  exact sJ hms.out aD.out hO4.out
 |some y=>
  rw[hv]at cV hms;simp only[Option.map_some]at hms;have hyk:=hkk hv;replace hms:=af hms;replace cV:=af cV;replace hA:=af hA;obtain⟨y1,y2,y3⟩:=y;simp only at hyk;have hy8:(y1==8)=false:=by rw[beq_eq_false_iff_ne];omega
  change Hid _ at hyk;clear hv hA1 hf hK h hkk;go_enter Tryz.func413,Tryz.ntmps413
  go_wp2_with fail
  refine cV.out.mono ?_;rintro e w2 ⟨rfl,hO⟩;unfold PV.val;simp only;have hF2:=hF.out.own hO (by simp);obtain⟨c3,z3⟩:=hF2.cell 3 (u:=.int .i64 x.v.k) rfl;obtain⟨c4,z4⟩:=hF2.cell 4 (u:=.int .u64 x.v.n) rfl;obtain⟨c5,z5⟩:=hF2.cell 5 (u:=.string x.v.s) rfl;obtain⟨xP,hO3⟩:=hF2.set3 ⟨y1,y2,y3⟩;have hO4:=af ((hA.out.trans hO).nil.trans hO3);have hst:(⟨x.key,x.ty,x.nu,⟨y1,y2,y3⟩,x.set⟩:Fo).st=(false,x.set):=by unfold Fo.st;simp only;rw[hy8]
  change Hid _ at xP hst;clear hF hF2 hO hO3;go_wp2_with fail
  go_ret
  exact oL (x:={x with v:=⟨y1,y2,y3⟩}) (hms.out.trans (by rw[<-hst.out])) xP.out hO4.out
theorem MB(b:Nat)(x:Fo)(f:bN)(w:World)(h:nV w b x)(hf:f.Ok)(hK:aS w):
  Calls Tryz.prog 413 #[.pointer (some ⟨b,0,none⟩),.agg (fL f).toArray] w (iJ (dw x.st f) w b):=by
 by_cases OD:3<=f.num/\f.num<=8
 ·exact EL b x f w h hf hK OD
 by_cases h1:f.num=1
 ·obtain⟨n,k,v,t⟩:=f
  simp only at h1;subst h1;exact VU b x k v t w h hf.v0
 by_cases h2:f.num=2
 ·obtain⟨n,k,v,t⟩:=f
  simp only at h2;subst h2;exact VW b x k v t w h hf.v0
 by_cases h9:f.num=9
 ·obtain⟨n,k,v,t⟩:=f
  simp only at h9;subst h9;exact VX b x k v t w h
 exact Ip b x f w h h1 h2 h9 OD
end Go.Proofs.YtedcakchekaemaaGreatDoor
namespace Go.Proofs.YtedcakchekaemaaGreatDoor
open Go.RowKit
def jv.zero:jv:=⟨0,⟨#[]⟩,⟨#[]⟩,⟨#[]⟩⟩
def nA:List ByteArray->jv
 | [_,_,n]=>⟨9,⟨#[]⟩,n,⟨#[]⟩⟩
 | [_,g,x,n]=>⟨nK x,g,n,⟨#[]⟩⟩
 | [_,g,x,n,d]=>⟨nK x,g,n,d⟩
 |_=>jv.zero
def bQ(t:ByteArray):jv:=if(fE (nA (eB t))).2=0/\(fE (nA (eB t))).1=t then nA (eB t)else jv.zero
def vz(s:jv)(e:Ending):Prop:=e=.returned (.agg #[.int .i64 s.k,.string s.g,.string s.n,.string s.d])
theorem YK{w:World}{b:Nat}{x0 x1 x2 x3:Value}{T:TypeId}(h:w.heap[b]?=some (.cells #[x0,x1,x2,x3] T (0,0))):
  w.frozen? ⟨b,0,none⟩=false/\w.frozen? ⟨b,1,none⟩=false/\w.frozen? ⟨b,2,none⟩=false/\w.frozen? ⟨b,3,none⟩=false/\b<w.heap.size:=
 ⟨frozen_of_row w b 0 _ _ h,frozen_of_row w b 1 _ _ h,frozen_of_row w b 2 _ _ h,frozen_of_row w b 3 _ _ h,aj h⟩
theorem BZ{w:World}{b:Nat}{x0 x1 x2 x3:Value}{T:TypeId}(h:w.heap[b]?=some (.cells #[x0,x1,x2,x3] T (0,0)))(u0 u1 u2 u3:Value):
  ((((w.setCell ⟨b,0,none⟩ u0).setCell ⟨b,1,none⟩ u1).setCell ⟨b,2,none⟩ u2).setCell ⟨b,3,none⟩ u3).heap[b]?=some (.cells #[u0,u1,u2,u3] T (0,0)):=by
 have h1:=heap_setCell_same w b 0 _ T u0 h;have h2:=heap_setCell_same _ b 1 _ T u1 h1;have h3:=heap_setCell_same _ b 2 _ T u2 h2;have h4:=heap_setCell_same _ b 3 _ T u3 h3;simpa using h4
theorem abK{w w':World}(h:ai [] w w'){b:Nat}(hb:w.heap.size<=b)(u0 u1 u2 u3:Value):
  ai [] w ((((w'.setCell ⟨b,0,none⟩ u0).setCell ⟨b,1,none⟩ u1).setCell ⟨b,2,none⟩ u2).setCell ⟨b,3,none⟩ u3):=
 (((h.setCell (.inr hb) _).setCell (.inr hb) _).setCell (.inr hb) _).setCell (.inr hb) _
theorem Lp(l:List ByteArray)(v:Value)(w:World)(hR:aG nO w v l)(hW:dL w):Calls Tryz.prog 50 #[v] w fun e w'=>vz (nA l) e/\ai [] w w':=by
 obtain⟨av,cv,rfl⟩:=hR.form;have aL:ai [] w (w.alloc (.cells #[.int .i64 0,.string ⟨#[]⟩,.string ⟨#[]⟩,.string ⟨#[]⟩] 76)):=(ai.refl _ _).alloc _;have hb:=heap_alloc_new w (.cells #[.int .i64 0,.string ⟨#[]⟩,.string ⟨#[]⟩,.string ⟨#[]⟩] 76);have cK:=af (fun x W (h:dL W)=>Pq x W h);have hWw:=af (hW.own aL);by_cases h3:l.length=3
 ·match l,h3,hR with
  | [x0,x1,x2],_,hR=>
    obtain⟨b,o,rfl,hC⟩:=hR.at_ lM (by simp);have c2:w.cell? ⟨b,o+2,none⟩=some (.string x2):=by simpa using hC 2 x2 0 (.string x2) rfl rfl
    have d2:=(aL.cell (block_lt_of_cell c2) (by simp)).trans c2;clear hC hR;show Calls Tryz.prog 50 #[.slice (some ⟨b,o,none⟩) 3 cv] w fun e w'=>vz ⟨9,⟨#[]⟩,x2,⟨#[]⟩⟩ e/\ai [] w w'
    go_enter Tryz.func50,Tryz.ntmps50
    go_wp2_with fail
    obtain⟨g0,g1,g2,g3⟩:=fI (heap_alloc_new w (.cells #[.int .i64 9,.string ⟨#[]⟩,.string x2,.string ⟨#[]⟩] 76));refine bodyPost_ret (v:=.agg #[.int .i64 9,.string ⟨#[]⟩,.string x2,.string ⟨#[]⟩]) (by simp[results,Tryz.results50,go_sem,g0,g1,g2,g3];try rfl) rfl ⟨rfl,(ai.refl [] w).alloc _⟩
 ·by_cases h4:l.length=4
  ·replace h3:=h4
   clear h4
   match l,h3,hR with
   | [x0,x1,x2,x3],_,hR=>
     obtain⟨b,o,rfl,hC⟩:=hR.at_ lM (by simp);have c1:w.cell? ⟨b,o+1,none⟩=some (.string x1):=by simpa using hC 1 x1 0 (.string x1) rfl rfl
     have d1:=(aL.cell (block_lt_of_cell c1) (by simp)).trans c1;have c2:w.cell? ⟨b,o+2,none⟩=some (.string x2):=by simpa using hC 2 x2 0 (.string x2) rfl rfl
     have d2:=(aL.cell (block_lt_of_cell c2) (by simp)).trans c2;have c3:w.cell? ⟨b,o+3,none⟩=some (.string x3):=by simpa using hC 3 x3 0 (.string x3) rfl rfl
     have d3:=(aL.cell (block_lt_of_cell c3) (by simp)).trans c3;clear hC hR;show Calls Tryz.prog 50 #[.slice (some ⟨b,o,none⟩) 4 cv] w fun e w'=>vz ⟨nK x2,x1,x3,⟨#[]⟩⟩ e/\ai [] w w'
     go_enter Tryz.func50,Tryz.ntmps50
     go_wp2_with fail
     go_region_held3(fun W'=>W'.cell? ⟨b,o+1,none⟩=some (.string x1)/\W'.cell? ⟨b,o+2,none⟩=some (.string x2)/\W'.cell? ⟨b,o+3,none⟩=some (.string x3)) (go_keep) ((go_at_call 85;((with_reducible refine(cK.out _ _ (by first|exact hWw.out|exact hWw.out.own ((ai.refl [] _).drew))).mono ?_);rintro e w2 ⟨rfl,rfl⟩)))
     all_goals
      go_wp2_with fail
     obtain⟨g0,g1,g2,g3⟩:=fI (heap_alloc_new w (.cells #[.int .i64 (nK x2),.string x1,.string x3,.string ⟨#[]⟩] 76));refine bodyPost_ret (v:=.agg #[.int .i64 (nK x2),.string x1,.string x3,.string ⟨#[]⟩]) (by simp[results,Tryz.results50,go_sem,g0,g1,g2,g3];try rfl) rfl ⟨rfl,((ai.refl [] w).alloc _).drew⟩
  ·by_cases h5:l.length=5
   ·match l,h5,hR with
    | [x0,x1,x2,x3,x4],_,hR=>
      obtain⟨b,o,rfl,hC⟩:=hR.at_ lM (by simp);have c1:w.cell? ⟨b,o+1,none⟩=some (.string x1):=by simpa using hC 1 x1 0 (.string x1) rfl rfl
      have d1:=(aL.cell (block_lt_of_cell c1) (by simp)).trans c1;have c2:w.cell? ⟨b,o+2,none⟩=some (.string x2):=by simpa using hC 2 x2 0 (.string x2) rfl rfl
      have d2:=(aL.cell (block_lt_of_cell c2) (by simp)).trans c2;have c3:w.cell? ⟨b,o+3,none⟩=some (.string x3):=by simpa using hC 3 x3 0 (.string x3) rfl rfl
      have d3:=(aL.cell (block_lt_of_cell c3) (by simp)).trans c3;have c4:w.cell? ⟨b,o+4,none⟩=some (.string x4):=by simpa using hC 4 x4 0 (.string x4) rfl rfl
      have d4:=(aL.cell (block_lt_of_cell c4) (by simp)).trans c4;clear hC hR;show Calls Tryz.prog 50 #[.slice (some ⟨b,o,none⟩) 5 cv] w fun e w'=>vz ⟨nK x2,x1,x3,x4⟩ e/\ai [] w w'
      go_enter Tryz.func50,Tryz.ntmps50
      go_wp2_with fail
      go_region_held3(fun W'=>W'.cell? ⟨b,o+1,none⟩=some (.string x1)/\W'.cell? ⟨b,o+2,none⟩=some (.string x2)/\W'.cell? ⟨b,o+3,none⟩=some (.string x3)/\W'.cell? ⟨b,o+4,none⟩=some (.string x4)) (go_keep) ((go_at_call 85;((with_reducible refine(cK.out _ _ (by first|exact hWw.out|exact hWw.out.own ((ai.refl [] _).drew))).mono ?_);rintro e w2 ⟨rfl,rfl⟩)))
      all_goals
       go_wp2_with fail
      obtain⟨g0,g1,g2,g3⟩:=fI (heap_alloc_new w (.cells #[.int .i64 (nK x2),.string x1,.string x3,.string x4] 76));refine bodyPost_ret (v:=.agg #[.int .i64 (nK x2),.string x1,.string x3,.string x4]) (by simp[results,Tryz.results50,go_sem,g0,g1,g2,g3];try rfl) rfl ⟨rfl,((ai.refl [] w).alloc _).drew⟩
   ·have hg:nA l=jv.zero:=by
     match l,h3,h4,h5 with
     | [],_,_,_=>rfl
     | [_],_,_,_=>rfl
     | [_,_],_,_,_=>rfl
     |_::_::_::_::_::_::_,_,_,_=>rfl
     | [_,_,_],h,_,_=>exact absurd rfl h
     | [_,_,_,_],_,h,_=>exact absurd rfl h
     | [_,_,_,_,_],_,_,h=>exact absurd rfl h
    have k3:((l.length:Int)==3)=false:=by simp;omega
    have k4:((l.length:Int)==4)=false:=by simp;omega
    have k5:((l.length:Int)==5)=false:=by simp;omega
    have q3: ¬((l.length:Int)=3):=by omega
    have q4: ¬((l.length:Int)=4):=by omega
    have q5: ¬((l.length:Int)=5):=by omega
    rw[hg];clear hg h3 h4 h5;go_enter Tryz.func50,Tryz.ntmps50
    go_wp2_with fail
    obtain⟨g0,g1,g2,g3⟩:=fI hb;refine bodyPost_ret (v:=.agg #[.int .i64 0,.string ⟨#[]⟩,.string ⟨#[]⟩,.string ⟨#[]⟩]) (by simp[results,Tryz.results50,go_sem,g0,g1,g2,g3];try rfl) rfl ⟨rfl,aL⟩
theorem PD{r:ByteArray×Int}{e:Ending}(h:GK r e):e=.returned (.tuple #[.string r.1,.int .i64 r.2]):=h
theorem yO(t:ByteArray)(w:World)(hs:t.size<=1048576)(hW:dL w)(hT:ko w)(hM:qV w):Calls Tryz.prog 23 #[.string t] w fun e w'=>vz (bQ t) e/\ai [] w w':=by
 obtain⟨R,hR⟩: ∃R,bQ t=R:=⟨_,rfl⟩;rw[hR];unfold bQ at hR;have aL:ai [] w (w.alloc (.cells #[.int .i64 0,.string ⟨#[]⟩,.string ⟨#[]⟩,.string ⟨#[]⟩] 76)):=(ai.refl _ _).alloc _;have hb:=heap_alloc_new w (.cells #[.int .i64 0,.string ⟨#[]⟩,.string ⟨#[]⟩,.string ⟨#[]⟩] 76);have cS:=af (Ll t (w.alloc (.cells #[.int .i64 0,.string ⟨#[]⟩,.string ⟨#[]⟩,.string ⟨#[]⟩] 76)) hs);have cG:=af (fun v W h hW=>Lp (eB t) v W h hW);have cP:=af (fun W hW hT hM=>Ki (nA (eB t)) W hW hT hM);generalize nA (eB t)=g at*;obtain⟨r,hr⟩: ∃r,fE g=r:=⟨_,rfl⟩;rw[hr]at hR cP;obtain⟨rt,re⟩:=r;clear hr;change Hid _ at hb;replace aL:=af aL;go_enter Tryz.func23,Tryz.ntmps23
 go_wp2_with fail
 refine cS.out.mono ?_;rintro e w1 ⟨v,rfl,mJ,hO⟩;have uO:=mJ.reads lM;clear mJ;replace aL:Hid (ai [] w w1):=af (aL.out.trans hO);replace hb:=af (hO.heap hb.out (by simp));clear hO cS;go_wp2_with fail
 refine(cG.out v w1 uO (hW.own aL.out)).mono ?_;rintro e w2 ⟨he,hO⟩;unfold vz at he;subst he;replace aL:Hid (ai [] w w2):=af (aL.out.trans hO);replace hb:=af (hO.heap hb.out (by simp));clear hO cG uO;have hO3:ai [] w (w2.alloc (.cells #[.int .i64 g.k,.string g.g,.string g.n,.string g.d] 76)):=aL.out.alloc _;have hb3:=heap_alloc_new w2 (.cells #[.int .i64 g.k,.string g.g,.string g.n,.string g.d] 76);have hb0:=((ai.refl [] w2).alloc (.cells #[.int .i64 g.k,.string g.g,.string g.n,.string g.d] 76)).heap hb.out (by simp);go_wp2_with fail
 refine(cP.out _ (hW.own hO3) (hT.own hO3 (by simp)) (hM.own hO3)).mono ?_;rintro e w3 ⟨he,hO⟩;replace he:=PD he;subst he;have hO4:ai [] w w3:=hO3.trans hO;have hc3:=hO.heap hb3 (by simp);have hc0:=hO.heap hb0 (by simp);clear hO hO3 hb3 hb0 hb aL cP;obtain⟨f0,f1,f2,f3⟩:=fI hc3;obtain⟨y0,y1,y2,y3⟩:=fI hc0;obtain⟨z0,z1,z2,z3,zl⟩:=YK hc0;have hr1:=BZ hc0 (.int .i64 0) (.string ⟨#[]⟩) (.string ⟨#[]⟩) (.string ⟨#[]⟩);have hr2:=BZ hc0 (.int .i64 g.k) (.string g.g) (.string g.n) (.string g.d);have ho1:=abK hO4 (Nat.le_refl _) (.int .i64 0) (.string ⟨#[]⟩) (.string ⟨#[]⟩) (.string ⟨#[]⟩);have ho2:=abK hO4 (Nat.le_refl _) (.int .i64 g.k) (.string g.g) (.string g.n) (.string g.d);clear hO4 hc0 hc3;by_cases hre:re=0
 ·by_cases hrt:rt=t
  ·rw[if_pos ⟨hre,hrt⟩]at hR
   subst hR hre hrt;clear hr1 ho1;go_wp2_with fail
   obtain⟨g0,g1,g2,g3⟩:=fI hr2;refine bodyPost_ret (v:=.agg #[.int .i64 g.k,.string g.g,.string g.n,.string g.d]) (by simp[results,Tryz.results23,go_sem,g0,g1,g2,g3];try rfl) rfl ⟨rfl,ho2⟩
  ·rw[if_neg (fun h=>hrt h.2)]at hR
   subst hR hre;clear hr2 ho2;have hq:(rt.toList==t.toList)=false:=by
    rw[beq_eq_false_iff_ne];exact fun h=>hrt (by rw[<-uZ rt,h,uZ])
   have hq2:(!rt.toList==t.toList)=true:=by rw[hq];rfl
   go_wp2_with fail
   obtain⟨g0,g1,g2,g3⟩:=fI hr1;refine bodyPost_ret (v:=.agg #[.int .i64 0,.string ⟨#[]⟩,.string ⟨#[]⟩,.string ⟨#[]⟩]) (by simp[results,Tryz.results23,go_sem,g0,g1,g2,g3];try rfl) rfl ⟨rfl,ho1⟩
 ·rw[if_neg (fun h=>hre h.1)]at hR
  subst hR;clear hr2 ho2;go_wp2_with fail
  obtain⟨g0,g1,g2,g3⟩:=fI hr1;refine bodyPost_ret (v:=.agg #[.int .i64 0,.string ⟨#[]⟩,.string ⟨#[]⟩,.string ⟨#[]⟩]) (by simp[results,Tryz.results23,go_sem,g0,g1,g2,g3];try rfl) rfl ⟨rfl,ho1⟩
end Go.Proofs.YtedcakchekaemaaGreatDoor
namespace Go.Proofs.YtedcakchekaemaaGreatDoor
open Go.RowKit
variable [Kd]
theorem c7{w:World}{b:Nat}{x0 x1 x2 x3 x4 x5 x6:Value}{T:TypeId}(h:w.heap[b]?=some (.cells #[x0,x1,x2,x3,x4,x5,x6] T (0,0))):
  w.cell? ⟨b,0,none⟩=some x0/\w.cell? ⟨b,1,none⟩=some x1/\w.cell? ⟨b,2,none⟩=some x2/\w.cell? ⟨b,3,none⟩=some x3/\w.cell? ⟨b,4,none⟩=some x4/\w.cell? ⟨b,5,none⟩=some x5/\w.cell? ⟨b,6,none⟩=some x6:=
 ⟨cell_of_row _ _ 0 _ _ _ h,cell_of_row _ _ 1 _ _ _ h,cell_of_row _ _ 2 _ _ _ h,cell_of_row _ _ 3 _ _ _ h,cell_of_row _ _ 4 _ _ _ h,cell_of_row _ _ 5 _ _ _ h,cell_of_row _ _ 6 _ _ _ h⟩
theorem z7{w:World}{b:Nat}{x0 x1 x2 x3 x4 x5 x6:Value}{T:TypeId}(h:w.heap[b]?=some (.cells #[x0,x1,x2,x3,x4,x5,x6] T (0,0))):
  w.frozen? ⟨b,0,none⟩=false/\w.frozen? ⟨b,1,none⟩=false/\w.frozen? ⟨b,2,none⟩=false/\w.frozen? ⟨b,3,none⟩=false/\w.frozen? ⟨b,4,none⟩=false/\w.frozen? ⟨b,5,none⟩=false/\w.frozen? ⟨b,6,none⟩=false/\b<w.heap.size:=
 ⟨frozen_of_row w b 0 _ _ h,frozen_of_row w b 1 _ _ h,frozen_of_row w b 2 _ _ h,frozen_of_row w b 3 _ _ h,frozen_of_row w b 4 _ _ h,frozen_of_row w b 5 _ _ h,frozen_of_row w b 6 _ _ h,aj h⟩
theorem s7{w:World}{b:Nat}{x0 x1 x2 x3 x4 x5 x6:Value}{T:TypeId}(h:w.heap[b]?=some (.cells #[x0,x1,x2,x3,x4,x5,x6] T (0,0)))(u0 u1 u2 u3 u4 u5 u6:Value):
  (((((((w.setCell ⟨b,0,none⟩ u0).setCell ⟨b,1,none⟩ u1).setCell ⟨b,2,none⟩ u2).setCell ⟨b,3,none⟩ u3).setCell ⟨b,4,none⟩ u4).setCell ⟨b,5,none⟩ u5).setCell ⟨b,6,none⟩ u6).heap[b]?=some (.cells #[u0,u1,u2,u3,u4,u5,u6] T (0,0))/\ai [b] w (((((((w.setCell ⟨b,0,none⟩ u0).setCell ⟨b,1,none⟩ u1).setCell ⟨b,2,none⟩ u2).setCell ⟨b,3,none⟩ u3).setCell ⟨b,4,none⟩ u4).setCell ⟨b,5,none⟩ u5).setCell ⟨b,6,none⟩ u6):=by
 have h0:=heap_setCell_same w b 0 _ T u0 h;have h1:=heap_setCell_same _ b 1 _ T u1 h0;have h2:=heap_setCell_same _ b 2 _ T u2 h1;have h3:=heap_setCell_same _ b 3 _ T u3 h2;have h4:=heap_setCell_same _ b 4 _ T u4 h3;have h5:=heap_setCell_same _ b 5 _ T u5 h4;have h6:=heap_setCell_same _ b 6 _ T u6 h5;exact⟨by simpa using h6,((((((((ai.refl [b] w).setCell (.inl (by simp)) _).setCell (.inl (by simp)) _).setCell (.inl (by simp)) _).setCell (.inl (by simp)) _).setCell (.inl (by simp)) _).setCell (.inl (by simp)) _).setCell (.inl (by simp)) _)⟩
theorem c8{w:World}{b:Nat}{x0 x1 x2 x3 x4 x5 x6 x7:Value}{T:TypeId}(h:w.heap[b]?=some (.cells #[x0,x1,x2,x3,x4,x5,x6,x7] T (0,0))):
  w.cell? ⟨b,0,none⟩=some x0/\w.cell? ⟨b,1,none⟩=some x1/\w.cell? ⟨b,2,none⟩=some x2/\w.cell? ⟨b,3,none⟩=some x3/\w.cell? ⟨b,4,none⟩=some x4/\w.cell? ⟨b,5,none⟩=some x5/\w.cell? ⟨b,6,none⟩=some x6/\w.cell? ⟨b,7,none⟩=some x7:=
 ⟨cell_of_row _ _ 0 _ _ _ h,cell_of_row _ _ 1 _ _ _ h,cell_of_row _ _ 2 _ _ _ h,cell_of_row _ _ 3 _ _ _ h,cell_of_row _ _ 4 _ _ _ h,cell_of_row _ _ 5 _ _ _ h,cell_of_row _ _ 6 _ _ _ h,cell_of_row _ _ 7 _ _ _ h⟩
theorem z8{w:World}{b:Nat}{x0 x1 x2 x3 x4 x5 x6 x7:Value}{T:TypeId}(h:w.heap[b]?=some (.cells #[x0,x1,x2,x3,x4,x5,x6,x7] T (0,0))):
  w.frozen? ⟨b,0,none⟩=false/\w.frozen? ⟨b,1,none⟩=false/\w.frozen? ⟨b,2,none⟩=false/\w.frozen? ⟨b,3,none⟩=false/\w.frozen? ⟨b,4,none⟩=false/\w.frozen? ⟨b,5,none⟩=false/\w.frozen? ⟨b,6,none⟩=false/\w.frozen? ⟨b,7,none⟩=false/\b<w.heap.size:=
 ⟨frozen_of_row w b 0 _ _ h,frozen_of_row w b 1 _ _ h,frozen_of_row w b 2 _ _ h,frozen_of_row w b 3 _ _ h,frozen_of_row w b 4 _ _ h,frozen_of_row w b 5 _ _ h,frozen_of_row w b 6 _ _ h,frozen_of_row w b 7 _ _ h,aj h⟩
theorem s8{w:World}{b:Nat}{x0 x1 x2 x3 x4 x5 x6 x7:Value}{T:TypeId}(h:w.heap[b]?=some (.cells #[x0,x1,x2,x3,x4,x5,x6,x7] T (0,0)))(u0 u1 u2 u3 u4 u5 u6 u7:Value):
  ((((((((w.setCell ⟨b,0,none⟩ u0).setCell ⟨b,1,none⟩ u1).setCell ⟨b,2,none⟩ u2).setCell ⟨b,3,none⟩ u3).setCell ⟨b,4,none⟩ u4).setCell ⟨b,5,none⟩ u5).setCell ⟨b,6,none⟩ u6).setCell ⟨b,7,none⟩ u7).heap[b]?=some (.cells #[u0,u1,u2,u3,u4,u5,u6,u7] T (0,0))/\ai [b] w ((((((((w.setCell ⟨b,0,none⟩ u0).setCell ⟨b,1,none⟩ u1).setCell ⟨b,2,none⟩ u2).setCell ⟨b,3,none⟩ u3).setCell ⟨b,4,none⟩ u4).setCell ⟨b,5,none⟩ u5).setCell ⟨b,6,none⟩ u6).setCell ⟨b,7,none⟩ u7):=by
 have h0:=heap_setCell_same w b 0 _ T u0 h;have h1:=heap_setCell_same _ b 1 _ T u1 h0;have h2:=heap_setCell_same _ b 2 _ T u2 h1;have h3:=heap_setCell_same _ b 3 _ T u3 h2;have h4:=heap_setCell_same _ b 4 _ T u4 h3;have h5:=heap_setCell_same _ b 5 _ T u5 h4;have h6:=heap_setCell_same _ b 6 _ T u6 h5;have h7:=heap_setCell_same _ b 7 _ T u7 h6;exact⟨by simpa using h7,(((((((((ai.refl [b] w).setCell (.inl (by simp)) _).setCell (.inl (by simp)) _).setCell (.inl (by simp)) _).setCell (.inl (by simp)) _).setCell (.inl (by simp)) _).setCell (.inl (by simp)) _).setCell (.inl (by simp)) _).setCell (.inl (by simp)) _)⟩
theorem KH{w:World}{b:Nat}{x0 x1 x2 x3 x4 x5 x6 x7 x8 x9 x10 qQ XP XQ x14:Value}{T:TypeId}(h:w.heap[b]?=some (.cells #[x0,x1,x2,x3,x4,x5,x6,x7,x8,x9,x10,qQ,XP,XQ,x14] T (0,0))):
  w.cell? ⟨b,0,none⟩=some x0/\w.cell? ⟨b,1,none⟩=some x1/\w.cell? ⟨b,2,none⟩=some x2/\w.cell? ⟨b,3,none⟩=some x3/\w.cell? ⟨b,4,none⟩=some x4/\w.cell? ⟨b,5,none⟩=some x5/\w.cell? ⟨b,6,none⟩=some x6/\w.cell? ⟨b,7,none⟩=some x7/\w.cell? ⟨b,8,none⟩=some x8/\w.cell? ⟨b,9,none⟩=some x9/\w.cell? ⟨b,10,none⟩=some x10/\w.cell? ⟨b,11,none⟩=some qQ/\w.cell? ⟨b,12,none⟩=some XP/\w.cell? ⟨b,13,none⟩=some XQ/\w.cell? ⟨b,14,none⟩=some x14:=
 ⟨cell_of_row _ _ 0 _ _ _ h,cell_of_row _ _ 1 _ _ _ h,cell_of_row _ _ 2 _ _ _ h,cell_of_row _ _ 3 _ _ _ h,cell_of_row _ _ 4 _ _ _ h,cell_of_row _ _ 5 _ _ _ h,cell_of_row _ _ 6 _ _ _ h,cell_of_row _ _ 7 _ _ _ h,cell_of_row _ _ 8 _ _ _ h,cell_of_row _ _ 9 _ _ _ h,cell_of_row _ _ 10 _ _ _ h,cell_of_row _ _ 11 _ _ _ h,cell_of_row _ _ 12 _ _ _ h,cell_of_row _ _ 13 _ _ _ h,cell_of_row _ _ 14 _ _ _ h⟩
theorem z15{w:World}{b:Nat}{x0 x1 x2 x3 x4 x5 x6 x7 x8 x9 x10 qQ XP XQ x14:Value}{T:TypeId}(h:w.heap[b]?=some (.cells #[x0,x1,x2,x3,x4,x5,x6,x7,x8,x9,x10,qQ,XP,XQ,x14] T (0,0))):
  w.frozen? ⟨b,0,none⟩=false/\w.frozen? ⟨b,1,none⟩=false/\w.frozen? ⟨b,2,none⟩=false/\w.frozen? ⟨b,3,none⟩=false/\w.frozen? ⟨b,4,none⟩=false/\w.frozen? ⟨b,5,none⟩=false/\w.frozen? ⟨b,6,none⟩=false/\w.frozen? ⟨b,7,none⟩=false/\w.frozen? ⟨b,8,none⟩=false/\w.frozen? ⟨b,9,none⟩=false/\w.frozen? ⟨b,10,none⟩=false/\w.frozen? ⟨b,11,none⟩=false/\w.frozen? ⟨b,12,none⟩=false/\w.frozen? ⟨b,13,none⟩=false/\w.frozen? ⟨b,14,none⟩=false/\b<w.heap.size:=
 ⟨frozen_of_row w b 0 _ _ h,frozen_of_row w b 1 _ _ h,frozen_of_row w b 2 _ _ h,frozen_of_row w b 3 _ _ h,frozen_of_row w b 4 _ _ h,frozen_of_row w b 5 _ _ h,frozen_of_row w b 6 _ _ h,frozen_of_row w b 7 _ _ h,frozen_of_row w b 8 _ _ h,frozen_of_row w b 9 _ _ h,frozen_of_row w b 10 _ _ h,frozen_of_row w b 11 _ _ h,frozen_of_row w b 12 _ _ h,frozen_of_row w b 13 _ _ h,frozen_of_row w b 14 _ _ h,aj h⟩
theorem s15{w:World}{b:Nat}{x0 x1 x2 x3 x4 x5 x6 x7 x8 x9 x10 qQ XP XQ x14:Value}{T:TypeId}(h:w.heap[b]?=some (.cells #[x0,x1,x2,x3,x4,x5,x6,x7,x8,x9,x10,qQ,XP,XQ,x14] T (0,0)))(u0 u1 u2 u3 u4 u5 u6 u7 u8 u9 Ow Ox Oy Oz OA:Value):
  (((((((((((((((w.setCell ⟨b,0,none⟩ u0).setCell ⟨b,1,none⟩ u1).setCell ⟨b,2,none⟩ u2).setCell ⟨b,3,none⟩ u3).setCell ⟨b,4,none⟩ u4).setCell ⟨b,5,none⟩ u5).setCell ⟨b,6,none⟩ u6).setCell ⟨b,7,none⟩ u7).setCell ⟨b,8,none⟩ u8).setCell ⟨b,9,none⟩ u9).setCell ⟨b,10,none⟩ Ow).setCell ⟨b,11,none⟩ Ox).setCell ⟨b,12,none⟩ Oy).setCell ⟨b,13,none⟩ Oz).setCell ⟨b,14,none⟩ OA).heap[b]?=some (.cells #[u0,u1,u2,u3,u4,u5,u6,u7,u8,u9,Ow,Ox,Oy,Oz,OA] T (0,0))/\ai [b] w (((((((((((((((w.setCell ⟨b,0,none⟩ u0).setCell ⟨b,1,none⟩ u1).setCell ⟨b,2,none⟩ u2).setCell ⟨b,3,none⟩ u3).setCell ⟨b,4,none⟩ u4).setCell ⟨b,5,none⟩ u5).setCell ⟨b,6,none⟩ u6).setCell ⟨b,7,none⟩ u7).setCell ⟨b,8,none⟩ u8).setCell ⟨b,9,none⟩ u9).setCell ⟨b,10,none⟩ Ow).setCell ⟨b,11,none⟩ Ox).setCell ⟨b,12,none⟩ Oy).setCell ⟨b,13,none⟩ Oz).setCell ⟨b,14,none⟩ OA):=by
 have h0:=heap_setCell_same w b 0 _ T u0 h;have h1:=heap_setCell_same _ b 1 _ T u1 h0;have h2:=heap_setCell_same _ b 2 _ T u2 h1;have h3:=heap_setCell_same _ b 3 _ T u3 h2;have h4:=heap_setCell_same _ b 4 _ T u4 h3;have h5:=heap_setCell_same _ b 5 _ T u5 h4;have h6:=heap_setCell_same _ b 6 _ T u6 h5;have h7:=heap_setCell_same _ b 7 _ T u7 h6;have h8:=heap_setCell_same _ b 8 _ T u8 h7;have h9:=heap_setCell_same _ b 9 _ T u9 h8;have h10:=heap_setCell_same _ b 10 _ T Ow h9;have h11:=heap_setCell_same _ b 11 _ T Ox h10;have h12:=heap_setCell_same _ b 12 _ T Oy h11;have h13:=heap_setCell_same _ b 13 _ T Oz h12;have h14:=heap_setCell_same _ b 14 _ T OA h13;exact⟨by simpa using h14,((((((((((((((((ai.refl [b] w).setCell (.inl (by simp)) _).setCell (.inl (by simp)) _).setCell (.inl (by simp)) _).setCell (.inl (by simp)) _).setCell (.inl (by simp)) _).setCell (.inl (by simp)) _).setCell (.inl (by simp)) _).setCell (.inl (by simp)) _).setCell (.inl (by simp)) _).setCell (.inl (by simp)) _).setCell (.inl (by simp)) _).setCell (.inl (by simp)) _).setCell (.inl (by simp)) _).setCell (.inl (by simp)) _).setCell (.inl (by simp)) _)⟩
end Go.Proofs.YtedcakchekaemaaGreatDoor
