/- Contracts of the program, part 14. -/
import Derived.Test.YtedcakchekaemaaGreatDoorMp13
import Derived.Test.YtedcakchekaemaaGreatDoorMp11
set_option maxRecDepth 100000
set_option maxHeartbeats 16000000
set_option linter.all false
namespace Go.Proofs.YtedcakchekaemaaGreatDoor
open Go.RowKit
def mkB(l:List UInt8):ByteArray:=⟨l.toArray⟩
theorem uZ(x:ByteArray):mkB x.toList=x:=by unfold mkB;rw[Lib.toList_data]
def yI:List UInt8->List (List UInt8)
 | []=>[[]]
 |c::r=>if c=47 then[]::yI r else match yI r with|x::t=>(c::x)::t| []=>[[c]]
theorem Li(c:UInt8)(r:List UInt8):yI (c::r)=if c=47 then[]::yI r else match yI r with|x::t=>(c::x)::t| []=>[[c]]:=rfl
theorem DI: ∀{a:List UInt8},(∀c∈a,c≠47)->yI a=[a]
 | [],_=>rfl
 |c::r,h=>by
  unfold yI;rw[if_neg (h c (List.mem_cons_self ..)),DI (fun x hx=>h x (List.mem_cons_of_mem _ hx))]
theorem DJ: ∀{a:List UInt8} (b:List UInt8),(∀c∈a,c≠47)->yI (a++47::b)=a::yI b
 | [],b,_=>by simp[yI]
 |c::r,b,h=>by
  rw[List.cons_append,Li];rw[if_neg (h c (List.mem_cons_self ..)),DJ b (fun x hx=>h x (List.mem_cons_of_mem _ hx))]
def eB(s:ByteArray):List ByteArray:=(yI s.toList).map mkB
theorem Pw(s:ByteArray)(i:Nat):(s.extract 0 i).toList=s.toList.take i:=by
 rw[Lib.Pa.extract_upto,Lib.toList_data,Lib.toList_data]
theorem Px(s:ByteArray)(i:Nat):(s.extract i s.size).toList=s.toList.drop i:=by
 rw[Lib.Pa.extract_from,Lib.toList_data,Lib.toList_data]
theorem ku(s:ByteArray):s.toList.length=s.size:=by rw[Lib.toList_data];rfl
theorem pG(s:ByteArray)(i:Nat)(h:i<s.size):s.toList[i]?=some (s.get! i):=by
 rw[Lib.toList_data];have h2:i<s.data.size:=h;show s.data.toList[i]?=some s.data[i]!;rw[Array.getElem?_toList];rw[getElem!_pos s.data i h2,Array.getElem?_eq_getElem h2]
def tH(s:ByteArray)(b:Nat):Prop:= ∀j,j<b->j<s.size->s.get! j≠47
theorem yJ{s:ByteArray}{i:Nat}(h:tH s i): ∀c∈s.toList.take i,c≠47:=by
 intro c hc;obtain⟨j,hj,rfl⟩:=List.getElem_of_mem hc;have hl:=List.length_take_le i s.toList;have hj1:j<i:=by simp at hj;omega
 have hj2:j<s.size:=by simp[ku]at hj;omega
 have:=h j hj1 hj2;have e:=pG s j hj2;rw[List.getElem_take];intro e2;rw[List.getElem?_eq_getElem (by rw[ku];exact hj2)]at e;rw[Option.some.inj e]at e2;exact this e2
theorem yK{s:ByteArray}{i:Nat}(h:tH s i)(hi:i<s.size)(hc:s.get! i=47):eB s=s.extract 0 i::eB (s.extract (i+1) s.size):=by
 unfold eB;have e:s.toList=s.toList.take i++47::s.toList.drop (i+1):=by
  have h1:=List.take_append_drop i s.toList;rw[List.drop_eq_getElem_cons (by rw[ku];exact hi)]at h1;have h2:=pG s i hi;rw[List.getElem?_eq_getElem (by rw[ku];exact hi),hc]at h2;rw[Option.some.inj h2]at h1;exact h1.symm
 rw[e,DJ _ (yJ h),List.map_cons,Px]
 congr 1
 rw[<-Pw,uZ]
theorem yL{s:ByteArray}(h:tH s s.size):eB s=[s]:=by
 unfold eB;have:=yJ h;rw[List.take_of_length_le (by rw[ku];omega)]at this;rw[DI this,List.map_cons,uZ];rfl
theorem Kg{s:ByteArray}{i:Nat}(hi:i<s.size):1<=(Utf8.decode s i).2/\i+(Utf8.decode s i).2<=s.size/\
  (((Utf8.decode s i).1=47/\s.get! i=47)\/((Utf8.decode s i).1≠47/\ ∀j,i<=j->j<i+(Utf8.decode s i).2->s.get! j≠47)):=by
 have hsh:=Lib.decodeN_shape (s.size-i) (s.get! i).toNat (s.get! (i+1)).toNat (s.get! (i+2)).toNat (s.get! (i+3)).toNat;rw[<-Lib.decode_at]at hsh;have hn: ∀k,(s.get! k).toNat≠47->s.get! k≠47:=fun k h e=>h (by rw[e];rfl)
 by_cases hb:(s.get! i).toNat<128
 ·have e:Utf8.decode s i=((s.get! i).toNat,1):=by
   have h1:=decode_ascii s i hi (by
    have:s[i]=s.get! i:=by simp[ByteArray.get!,getElem!_pos,hi];rfl
    rw[this];exact hb)
   rw[h1];have:s[i]=s.get! i:=by simp[ByteArray.get!,getElem!_pos,hi];rfl
   rw[this]
  rw[e];refine⟨Nat.le_refl _,hi,?_⟩;by_cases h47:(s.get! i).toNat=47
  ·exact .inl ⟨h47,UInt8.toNat_inj.1 h47⟩
  ·refine .inr ⟨h47,fun j h1 h2=>?_⟩
   obtain rfl:j=i:=by simp at h2;omega
   exact hn _ h47
 ·rcases hsh with⟨h,_⟩|⟨h0,h1,h2,h3,h4⟩|⟨h0,h1,h2,h3,h4,_,h5⟩|⟨h0,h1,h2,h3,h4,h5,_,h6⟩|h
  ·omega
  ·rw[h4]
   refine⟨by simp,by simp;omega,.inr ⟨by simp;omega,fun j a b=>?_⟩⟩;have:j=i\/j=i+1:=by simp at b;omega
   rcases this with rfl|rfl<;>exact hn _ (by omega)
  ·rw[h5]
   refine⟨by simp,by simp;omega,.inr ⟨by simp;omega,fun j a b=>?_⟩⟩;have:j=i\/j=i+1\/j=i+2:=by simp at b;omega
   rcases this with rfl|rfl|rfl<;>exact hn _ (by omega)
  ·rw[h6]
   refine⟨by simp,by simp;omega,.inr ⟨by simp;omega,fun j a b=>?_⟩⟩;have:j=i\/j=i+1\/j=i+2\/j=i+3:=by simp at b;omega
   rcases this with rfl|rfl|rfl|rfl<;>exact hn _ (by omega)
  ·rw[h]
   refine⟨Nat.le_refl _,by simp;omega,.inr ⟨by simp,fun j a b=>?_⟩⟩;obtain rfl:j=i:=by simp at b;omega
   exact hn _ (by omega)
theorem tH.step{s:ByteArray}{i n:Nat}(h:tH s i)(hn: ∀j,i<=j->j<i+n->s.get! j≠47):tH s (i+n):=by
 intro j h1 h2;by_cases hj:j<i
 ·exact h j hj h2
 ·exact hn j (by omega) h1
end Go.Proofs.YtedcakchekaemaaGreatDoor
namespace Go.Proofs.YtedcakchekaemaaGreatDoor
open Go.RowKit Go.Lib Go.Shelf
def nO(x:ByteArray):List Value:=[.string x]
theorem lM(x:ByteArray):(nO x).length=1:=rfl
theorem YI:(Tryz.prog.info? 9).map (fun i=>(i.zero,i.size,i.bytes))=some (some (.string ⟨#[]⟩),1,16):=by kernel_rfl
theorem Kh:jG Tryz.prog 26 9 nO 1 16 where
 ut:=Tryz.underlying26
 info:=by obtain⟨i,h1,h2,h3,h4⟩:=info_parts YI;exact⟨i,_,h1,h2,h3,h4,rfl⟩
 pos:=by omega
 len:=lM
 one x u hu:=by simp[nO]at hu;subst hu;rfl
theorem abJ(w:World)(C:Nat)(h:C<=1048576): ∃w',(Instr.makeSlice 26 (.int .i64 0) (.int .i64 ((C:Int)+1))).run Tryz.prog w=.ok (.slice (some ⟨w.heap.size,0,none⟩) 0 (C+1)) w'/\Sl 9 nO 1 w.heap.size w' (.slice (some ⟨w.heap.size,0,none⟩) 0 (C+1)) []/\ai [] w w':=by
 obtain⟨i,h1,h2,h3,h4⟩:=info_parts YI;obtain⟨w',hr,hO,hg⟩:=run_make_own (P:=Tryz.prog) w w.heap.size 26 9 i _ 1 Tryz.underlying26 h1 h2 h3 .i64 .i64 (C+1) (by rw[h4];omega) (by unfold maxLen;omega) (Nat.le_refl _);exact⟨w',by simpa using hr,hO,⟨hg.os,hg.tape,hg.output,hg.size,fun k hk _=>hg.block k hk (by simp)⟩⟩
theorem Zk(l:List UInt8)(b:UInt8):Lib.countByte l b<=l.length:=by
 first|exact List.count_le_length|(unfold Lib.countByte;exact List.length_filter_le _ _)|(unfold Lib.countByte;exact List.countP_le_length)
def Lj(w:World)(s:ByteArray)(e:Ending)(w':World):Prop:=
 ∃v,e=.returned v/\Sl 9 nO 1 w.heap.size w' v (eB s)/\ai [] w w'
def Zl(s:ByteArray)(w:World)(a':Act)(w':World):Prop:=
 ∃(r:ByteArray) (T:List ByteArray) (va u4 u5 u6 u7 u8 u9 Ow Ox Oy Oz OA YZ u16 Y0 Y1 Y2 u20 u21 u22 u23 u24 u25 u26 u27 u28 u29 u30 u31:Value),a'={tmps:=#[.string r,undef,.slice none 0 0,va,u4,u5,u6,u7,u8,u9,Ow,Ox,Oy,Oz,OA,YZ,u16,Y0,Y1,Y2,u20,u21,u22,u23,u24,u25,u26,u27,u28,u29,u30,u31],defers:=[]}/\Sl 9 nO 1 w.heap.size w' va T/\ai [] w w'/\T.length+r.size<=s.size/\Hid (T++eB r=eB s)
def Vi(a:Act):Nat:=match a.tmps.getD 0 undef with| .string r=>r.size|_=>0
theorem Ll(s:ByteArray)(w:World)(hs:s.size<=1048576):
  Calls Tryz.prog 51 #[.string s] w (Lj w s):=by
 have cC:=Any.strings_Count_one Tryz.laysCount s 47 w;have hC:=Zk s.data.toList 47;have hsz:s.data.toList.length=s.size:=rfl;rw[hsz]at hC;generalize Lib.countByte s.data.toList 47=C at cC hC;obtain⟨w1,hmk,mJ,aL⟩:=abJ w C (by omega);have hc0:(0:Int)<=C:=by omega
 have hc1:(C:Int)<=1048576:=by omega
 replace cC:=af cC;clear hsz hC;go_enter Tryz.func51,Tryz.ntmps51
 go_wp2_with fail
 refine wp_scope_jumps 0 (Zl s w) (fun a' _=>Vi a') rfl ?_ ?_
 ·go_wp2_with(first|(go_at_call 86;refine cC.out.mono ?_;rintro e w2 ⟨rfl,hw2⟩;rw[hw2];clear hw2 w2))
  go_step3
  go_wp2_with fail
  obtain⟨wc,hwc⟩: ∃wc,wc=w1:=⟨_,rfl⟩;rw[<-hwc];have hO:ai [] w wc:=hwc▸aL;have hS:=hwc▸mJ;have hT:Hid ([]++eB s=eB s):=af rfl;have hsz:([]:List ByteArray).length+s.size<=s.size:=by simp
  change Hid _ at hwc;generalize([]:List ByteArray)=T at hS hT hsz;clear hmk mJ aL cC;generalize(Value.slice (some ⟨w.heap.size,0,none⟩) 0 (C+1))=va at hS⊢;go_loopg[0,3,12] (s.size+1) (fun g s0 s3 _ wr=> ∃i:Nat,s0=.string s/\s3=va/\wr=wc.iter s i/\g=s.size+1-i/\i<=s.size/\Aside (tH s i))
  case atStart=>exact⟨0,rfl,rfl,rfl,rfl,Nat.zero_le _,(fun j h=>by omega:tH s 0)⟩
  case round=>
   obtain⟨i,rfl,rfl,rfl,hg,hi,hA⟩:=hrel;replace hA:=hA.out;by_cases hlt:i<s.size
   ·have hnx: ∀ty,(Instr.next (.pointer (some ⟨wc.heap.size,0,none⟩)) true ty).run Tryz.prog (wc.iter s i)=_:=fun ty=>run_next_any wc s i ty hlt
    obtain⟨d1,d2,d3⟩:=Kg hlt;generalize Utf8.decode s i=dd at*;obtain⟨rune,wid⟩:=dd;simp only at d1 d2 d3 hnx;rcases d3 with⟨d3,d4⟩|⟨d3,d4⟩
    ·have h47:((rune:Int)==47)=true:=by simp;omega
     have hlv:=yK hA hlt d4;have hsz2:(s.extract (i+1) s.size).size=s.size-(i+1):=by simp[ByteArray.size_extract]
     have mX:(T++[s.extract 0 i])++eB (s.extract (i+1) s.size)=eB s:=by rw[<-hT.out,hlv];simp
     obtain⟨a1,c1,hva⟩:=hS.sl;subst hva;have hOb:ai [] w (((wc.iter s (i+wid)).drew).alloc (.cells #[.string (s.extract 0 i)] 9)):=((hO.alloc (.stringIter s (i+wid))).drew).alloc _;have hSb:Sl 9 nO 1 w.heap.size (((wc.iter s (i+wid)).drew).alloc (.cells #[.string (s.extract 0 i)] 9)) (.slice a1 T.length c1) T:=hS.nil' ((((ai.refl [] wc).alloc (.stringIter s (i+wid))).drew).alloc _);have hRb:=aG.new (enc:=nO) (T:=9) ((wc.iter s (i+wid)).drew) (s.extract 0 i) 1;have XO:(T++[s.extract 0 i]).length+(s.extract (i+1) s.size).size<=s.size:=by rw[hsz2];simp;omega
     have hB1:(T.length+[s.extract 0 i].length)*16<=140737488355328:=by simp only[List.length_singleton];omega
     have hB2:T.length+[s.extract 0 i].length<=maxLen:=by unfold maxLen;simp only[List.length_singleton];omega
     have hw2:(0:Int)<=(i:Int)+1:=by omega
     have hw3:(i:Int)+1<=s.size:=by omega
     have hw4:((i:Int)+1).toNat=i+1:=by omega
     have hw1:IntKind.i64.wrap ((i:Int)+1)=(i:Int)+1:=IntWalk.i64_in _ (by omega);change Hid _ at hB1 hB2 XO hsz2 mX hOb hg;clear hlv d3 d4 hA hO hS hT;go_wp2_with fail
     go_region_law((go_loud(refine qD rfl (.tmp 18) (.tmp 22) (by rfl) Kh hOb.out (by rfl) hSb (by rfl) hRb hB1.out hB2.out ?_);intro K4 w5 hS5 aF _ _;obtain⟨a2,c2,aaj⟩:=hS5.sl;subst aaj;rw[List.length_append,List.length_singleton]at hS5;have F:=af (And.intro hS5 (And.intro aF (And.intro XO.out mX)));clear hS5 aF))
     all_goals
      go_wp2_with fail
      go_step3
      exact⟨rfl,⟨s.extract (i+1) s.size,T++[s.extract 0 i],.slice a2 (T.length+1) c2,_,_,_,_,_,_,_,_,_,_,_,_,_,_,_,_,_,_,_,_,_,_,_,_,_,_,_,_,rfl,F.out.1,F.out.2.1,F.out.2.2.1,F.out.2.2.2⟩⟩
    ·have h47:((rune:Int)==47)=false:=by simp;omega
     have hA2:=af (hA.step d4);change Hid _ at hg;clear d3 d4 hA;go_wp2_with fail
     go_roundg(s.size+1-(i+wid))
     case measure=>have:=hg.out;omega
     case rel=>exact⟨i+wid,rfl,rfl,rfl,rfl,d2,hA2.out⟩
   ·obtain rfl:i=s.size:=by omega
    have hnx: ∀ty,(Instr.next (.pointer (some ⟨wc.heap.size,0,none⟩)) true ty).run Tryz.prog (wc.iter s s.size)=_:=fun ty=>run_next_end wc s s.size ty hlt
    have hlv:=yL hA;have mX:T++[s]=eB s:=by rw[<-hT.out,hlv]
    obtain⟨a1,c1,hva⟩:=hS.sl;subst hva;have hOb:ai [] w ((wc.iter s s.size).alloc (.cells #[.string s] 9)):=(hO.alloc (.stringIter s s.size)).alloc _;have hSb:Sl 9 nO 1 w.heap.size ((wc.iter s s.size).alloc (.cells #[.string s] 9)) (.slice a1 T.length c1) T:=hS.nil' (((ai.refl [] wc).alloc (.stringIter s s.size)).alloc _);have hRb:=aG.new (enc:=nO) (T:=9) (wc.iter s s.size) s 1;have OB:T.length<=1048576:=by omega
    change Hid _ at mX hOb;clear hlv hg hA hO hS hT;go_wp2_with(at_builtin;refine jr rfl (.tmp 28) (.tmp 30) rfl Kh hOb.out rfl hSb rfl hRb (by simp only[List.length_singleton];omega) (by unfold maxLen;simp only[List.length_singleton];omega) ?_;intro K4 w5 hS5 aF _ _;rw[mX.out]at hS5;have F:=af (And.intro hS5 aF);clear hS5 aF)
    simp only[Exit.jump];go_ret
    exact⟨_,rfl,F.out⟩
 ·rintro a' wc ⟨r,T,va,u4,u5,u6,u7,u8,u9,Ow,Ox,Oy,Oz,OA,YZ,u16,Y0,Y1,Y2,u20,u21,u22,u23,u24,u25,u26,u27,u28,u29,u30,u31,rfl,hS,hO,hsz,hT⟩
  clear hmk mJ aL cC;go_wp2_with fail
  go_loopg[0,3,12] (r.size+1) (fun g s0 s3 _ wr=> ∃i:Nat,s0=.string r/\s3=va/\wr=wc.iter r i/\g=r.size+1-i/\i<=r.size/\Aside (tH r i))
  case atStart=>exact⟨0,rfl,rfl,rfl,rfl,Nat.zero_le _,(fun j h=>by omega:tH r 0)⟩
  case round=>
   obtain⟨i,rfl,rfl,rfl,hg,hi,hA⟩:=hrel;replace hA:=hA.out;by_cases hlt:i<r.size
   ·have hnx: ∀ty,(Instr.next (.pointer (some ⟨wc.heap.size,0,none⟩)) true ty).run Tryz.prog (wc.iter r i)=_:=fun ty=>run_next_any wc r i ty hlt
    obtain⟨d1,d2,d3⟩:=Kg hlt;generalize Utf8.decode r i=dd at*;obtain⟨rune,wid⟩:=dd;simp only at d1 d2 d3 hnx;rcases d3 with⟨d3,d4⟩|⟨d3,d4⟩
    ·have h47:((rune:Int)==47)=true:=by simp;omega
     have hlv:=yK hA hlt d4;have hsz2:(r.extract (i+1) r.size).size=r.size-(i+1):=by simp[ByteArray.size_extract]
     have mX:(T++[r.extract 0 i])++eB (r.extract (i+1) r.size)=eB s:=by rw[<-hT.out,hlv];simp
     obtain⟨a1,c1,hva⟩:=hS.sl;subst hva;have hOb:ai [] w (((wc.iter r (i+wid)).drew).alloc (.cells #[.string (r.extract 0 i)] 9)):=((hO.alloc (.stringIter r (i+wid))).drew).alloc _;have hSb:Sl 9 nO 1 w.heap.size (((wc.iter r (i+wid)).drew).alloc (.cells #[.string (r.extract 0 i)] 9)) (.slice a1 T.length c1) T:=hS.nil' ((((ai.refl [] wc).alloc (.stringIter r (i+wid))).drew).alloc _);have hRb:=aG.new (enc:=nO) (T:=9) ((wc.iter r (i+wid)).drew) (r.extract 0 i) 1;have XO:(T++[r.extract 0 i]).length+(r.extract (i+1) r.size).size<=s.size:=by rw[hsz2];simp;omega
     have hB1:(T.length+[r.extract 0 i].length)*16<=140737488355328:=by simp only[List.length_singleton];omega
     have hB2:T.length+[r.extract 0 i].length<=maxLen:=by unfold maxLen;simp only[List.length_singleton];omega
     have hw2:(0:Int)<=(i:Int)+1:=by omega
     have hw3:(i:Int)+1<=r.size:=by omega
     have hw4:((i:Int)+1).toNat=i+1:=by omega
     have hw1:IntKind.i64.wrap ((i:Int)+1)=(i:Int)+1:=IntWalk.i64_in _ (by omega);change Hid _ at hB1 hB2 XO hsz2 mX hOb hg;clear hlv d3 d4 hA hO hS hT;go_wp2_with fail
     go_region_law((go_loud(refine qD rfl (.tmp 18) (.tmp 22) (by rfl) Kh hOb.out (by rfl) hSb (by rfl) hRb hB1.out hB2.out ?_);intro K4 w5 hS5 aF _ _;obtain⟨a2,c2,aaj⟩:=hS5.sl;subst aaj;rw[List.length_append,List.length_singleton]at hS5;have F:=af (And.intro hS5 (And.intro aF (And.intro XO.out mX)));clear hS5 aF))
     all_goals
      go_wp2_with fail
      go_step3
      refine⟨rfl,⟨r.extract (i+1) r.size,T++[r.extract 0 i],.slice a2 (T.length+1) c2,_,_,_,_,_,_,_,_,_,_,_,_,_,_,_,_,_,_,_,_,_,_,_,_,_,_,_,_,rfl,F.out.1,F.out.2.1,F.out.2.2.1,F.out.2.2.2⟩,?_⟩;show(r.extract (i+1) r.size).size<r.size;rw[hsz2.out];omega
    ·have h47:((rune:Int)==47)=false:=by simp;omega
     have hA2:=af (hA.step d4);change Hid _ at hg;clear d3 d4 hA;go_wp2_with fail
     go_roundg(r.size+1-(i+wid))
     case measure=>have:=hg.out;omega
     case rel=>exact⟨i+wid,rfl,rfl,rfl,rfl,d2,hA2.out⟩
   ·obtain rfl:i=r.size:=by omega
    have hnx: ∀ty,(Instr.next (.pointer (some ⟨wc.heap.size,0,none⟩)) true ty).run Tryz.prog (wc.iter r r.size)=_:=fun ty=>run_next_end wc r r.size ty hlt
    have hlv:=yL hA;have mX:T++[r]=eB s:=by rw[<-hT.out,hlv]
    obtain⟨a1,c1,hva⟩:=hS.sl;subst hva;have hOb:ai [] w ((wc.iter r r.size).alloc (.cells #[.string r] 9)):=(hO.alloc (.stringIter r r.size)).alloc _;have hSb:Sl 9 nO 1 w.heap.size ((wc.iter r r.size).alloc (.cells #[.string r] 9)) (.slice a1 T.length c1) T:=hS.nil' (((ai.refl [] wc).alloc (.stringIter r r.size)).alloc _);have hRb:=aG.new (enc:=nO) (T:=9) (wc.iter r r.size) r 1;have OB:T.length<=1048576:=by omega
    change Hid _ at mX hOb;clear hlv hg hA hO hS hT;go_wp2_with(at_builtin;refine jr rfl (.tmp 28) (.tmp 30) rfl Kh hOb.out rfl hSb rfl hRb (by simp only[List.length_singleton];omega) (by unfold maxLen;simp only[List.length_singleton];omega) ?_;intro K4 w5 hS5 aF _ _;rw[mX.out]at hS5;have F:=af (And.intro hS5 aF);clear hS5 aF)
    simp only[Exit.jump];go_ret
    exact⟨_,rfl,F.out⟩
def vw(s:ByteArray):Bool:=s.toList.head?==some 36
theorem yM{s:ByteArray}(h:0<s.size)(c:UInt8):((s.extract 0 1).toList==[c])=(s.toList.head?==some c):=by
 have hx:(s.extract 0 1).toList=[s.get! 0]:=by
  rw[Pw];have:=pG s 0 h;cases hl:s.toList with
  |nil=>rw[hl]at this;simp at this
  |cons c r=>rw[hl]at this;simp at this;simp[this]
 have hh:s.toList.head?=some (s.get! 0):=by rw[List.head?_eq_getElem?];exact pG s 0 h
 rw[hh,hx];simp
theorem GD(s:ByteArray)(w:World)(h0:0<s.size):Calls Tryz.prog 244 #[.string s] w fun e w'=>e=.returned (.bool (vw s))/\w=w':=by
 unfold vw;have hge:(1:Int)<=s.size:=by omega
 have hb:=yM h0 36;generalize(s.toList.head?==some (36:UInt8))=bb at hb⊢;go_enter Tryz.func244,Tryz.ntmps244
 go_wp2_with go_in
 go_ret
 exact⟨rfl,rfl⟩
def YJ(s:ByteArray):Bool:=s.toList.head?==some 43||s.toList.head?==some 35
theorem begin_any(f n:ByteArray)(w:World)(hf:0<f.size)(hn:0<n.size):
  Calls Tryz.prog 201 #[.string f,.string n] w fun e w'=>e=.returned (.agg #[.bool (YJ f),.bool (vw n)])/\ai [] w w':=by
 have H:=af (fun W=>GD n W hn);unfold YJ;have hge:(1:Int)<=f.size:=by omega
 have hp:=yM hf 43;have hh:=yM hf 35;generalize(f.toList.head?==some (43:UInt8))=b1 at hp⊢;generalize(f.toList.head?==some (35:UInt8))=b2 at hh⊢;generalize vw n=b3 at H⊢;cases b1
 ·go_enter Tryz.func201,Tryz.ntmps201
  go_wp2_with fail
  refine wp_region_still_tail 11 (by kernel_rfl) (by kernel_rfl) ?_;simp only[List.take_succ_cons,List.take_zero,List.drop_succ_cons,List.drop_zero]
  repeat(first|still_step|(still_call ((H.out _).mono (fun e w' h=>⟨h.1,h.2.symm⟩))))
  refine wpStill_nil ?_;change wpList _ _ _ _ _ ((w.alloc (.cells #[.bool false,.bool false] 323)).drew);go_wp2_with fail
  refine bodyPost_ret (v:=.agg #[.bool b2,.bool b3]) (by simp[results,Tryz.results201,go_sem]) rfl ⟨by simp,?_⟩
  repeat(first|exact ai.refl _ _|(refine ai.setCell ?_ (by simp) _)|refine ai.alloc ?_ _|refine ai.drew ?_)
 ·go_enter Tryz.func201,Tryz.ntmps201
  go_wp2_with fail
  refine wp_region_still_tail 11 (by kernel_rfl) (by kernel_rfl) ?_;simp only[List.take_succ_cons,List.take_zero,List.drop_succ_cons,List.drop_zero]
  repeat(first|still_step|(still_call ((H.out _).mono (fun e w' h=>⟨h.1,h.2.symm⟩))))
  refine wpStill_nil ?_;change wpList _ _ _ _ _ ((w.alloc (.cells #[.bool false,.bool false] 323)).drew);go_wp2_with fail
  refine bodyPost_ret (v:=.agg #[.bool true,.bool b3]) (by simp[results,Tryz.results201,go_sem]) rfl ⟨by simp,?_⟩
  repeat(first|exact ai.refl _ _|(refine ai.setCell ?_ (by simp) _)|refine ai.alloc ?_ _|refine ai.drew ?_)
structure GH (w:World) (va vb:Value) (a b h f:Nat):Prop where
 ca:w.cell? ⟨a,0,none⟩=some va
 cb:w.cell? ⟨b,0,none⟩=some vb
 ch:w.cell? ⟨h,0,none⟩=some (.func (.func 203) #[] #[])
 cf:w.cell? ⟨f,0,none⟩=some (.func (.func 245) #[] #[.pointer (some ⟨a,0,none⟩),.pointer (some ⟨b,0,none⟩),.pointer (some ⟨h,0,none⟩),.pointer (some ⟨f,0,none⟩)])
theorem GH.nil{w w':World}{va vb:Value}{a b h f:Nat}(H:GH w va vb a b h f)(ho:ai [] w w'):GH w' va vb a b h f:=
 ⟨(ho.cell (block_lt_of_cell H.ca) (by simp)).trans H.ca,(ho.cell (block_lt_of_cell H.cb) (by simp)).trans H.cb,(ho.cell (block_lt_of_cell H.ch) (by simp)).trans H.ch,(ho.cell (block_lt_of_cell H.cf) (by simp)).trans H.cf⟩
end Go.Proofs.YtedcakchekaemaaGreatDoor
namespace Go.Proofs.YtedcakchekaemaaGreatDoor
open Go.RowKit
def gu(k:Int):ByteArray:=if k=1 then⟨#[78,66,73,82,84,72]⟩else if k=2 then⟨#[78,68,69,65,84,72]⟩else if k=3 then⟨#[78,68,65,84,65]⟩else if k=4 then⟨#[78,67,77,68]⟩
 else if k=5 then⟨#[68,66,73,82,84,72]⟩else if k=6 then⟨#[68,68,69,65,84,72]⟩else if k=7 then⟨#[68,68,65,84,65]⟩else if k=8 then⟨#[68,67,77,68]⟩else if k=9 then⟨#[83,84,65,84,69]⟩else⟨#[]⟩
def dL(w:World):Prop:= ∀k:Nat,k<10->w.cell? ⟨0,k,none⟩=some (.string (gu k))
theorem dL.own{w w':World}(h:dL w)(ho:ai [] w w'):dL w':=fun k hk=>(ho.cell (block_lt_of_cell (h k hk)) (by simp)).trans (h k hk)
def yH(w:ByteArray):Nat->Nat->Int
 |0,_=>0
 |f+1,k=>if gu k=w then k else yH w f (k+1)
def nK(w:ByteArray):Int:=yH w 9 1
theorem Pq(x:ByteArray)(w:World)(hW:dL w):Calls Tryz.prog 85 #[.string x] w fun e w'=>e=.returned (.int .i64 (nK x))/\w=w':=by
 obtain⟨R,hR⟩: ∃R,nK x=R:=⟨_,rfl⟩;rw[hR];have hst:=af (show yH x 9 1=R from hR);change Hid _ at hW;clear hR;go_enter Tryz.func85,Tryz.ntmps85
 go_wp2_with fail
 go_loopg[3] 9 (fun g s3 wr=> ∃k:Nat,s3=.int .i64 k/\k+g=10/\Aside (wr=w/\yH x g k=R))
 case atStart=>exact⟨1,rfl,rfl,rfl,hst.out⟩
 case round=>
  obtain⟨k,rfl,hg,rfl,hF⟩:=hrel;have hw1:IntKind.i64.wrap ((k:Int)+1)=((k+1:Nat):Int):=by rw[IntKind.wrap_i64];omega
  clear hst;by_cases hlt:k<10
  ·have k1:(k:Int)<=9:=by omega
   have k0:(0:Int)<=k:=by omega
   have k2:(k:Int)<10:=by omega
   have c0:=hW.out k hlt;obtain⟨g,rfl⟩: ∃g0,gk=g0+1:=⟨gk-1,by omega⟩;unfold yH at hF;by_cases hx:gu k=x
   ·rw[if_pos hx]at hF
    have q1:((gu (k:Int)).toList==x.toList)=true:=by rw[hx];simp
    subst hF;subst hx;change Hid _ at hg;go_wp2_with fail
    go_ret
    exact⟨rfl,rfl⟩
   ·rw[if_neg hx]at hF
    have q1:((gu (k:Int)).toList==x.toList)=false:=by
     simp only[beq_eq_false_iff_ne];intro h;exact hx (by rw[Lib.toList_data,Lib.toList_data]at h;exact ByteArray.ext (Array.ext' h))
    change Hid _ at hg hF;clear hx;go_wp2_with fail
    go_roundg g
    case rel=>exact⟨k+1,by go_num,by have:=hg.out;omega,rfl,hF.out⟩
    case measure=>omega
  ·have k1: ¬(k:Int)<=9:=by omega
   obtain rfl:gk=0:=by omega
   have hF0:(0:Int)=R:=hF;subst hF0;clear hF hg;go_wp2_with fail
   go_ret
   exact⟨rfl,rfl⟩
theorem Dz(k:Int)(h:k<0\/9<k):gu k=⟨#[]⟩:=by
 unfold gu;rw[if_neg (by omega),if_neg (by omega),if_neg (by omega),if_neg (by omega),if_neg (by omega),if_neg (by omega),if_neg (by omega),if_neg (by omega),if_neg (by omega)]
theorem Gz(k:Int)(w:World)(hW:dL w):Calls Tryz.prog 157 #[.int .i64 k] w fun e w'=>e=.returned (.string (gu k))/\w=w':=by
 by_cases h0:k<0
 ·rw[Dz k (.inl h0)]
  go_enter Tryz.func157,Tryz.ntmps157
  go_wp2_with fail
  go_ret
  exact⟨rfl,rfl⟩
 ·by_cases h9:9<k
  ·rw[Dz k (.inr h9)]
   go_enter Tryz.func157,Tryz.ntmps157
   go_wp2_with fail
   go_ret
   exact⟨rfl,rfl⟩
  ·obtain⟨n,rfl⟩:=Int.eq_ofNat_of_zero_le (show 0<=k by omega)
   have c0:=hW n (by omega);have k2:(n:Int)<10:=by omega
   change Hid _ at hW;go_enter Tryz.func157,Tryz.ntmps157
   go_wp2_with fail
   go_ret
   exact⟨rfl,rfl⟩
def fJ(k:Int):Int:=if k=9 then 3 else if 5<=k then 5 else 4
theorem AL(k:Int)(w:World):Calls Tryz.prog 87 #[.int .i64 k] w fun e w'=>e=.returned (.int .i64 (fJ k))/\w=w':=by
 unfold fJ;by_cases h9:k=9
 ·subst h9
  rw[if_pos rfl];go_enter Tryz.func87,Tryz.ntmps87
  go_wp2_with fail
  go_ret
  exact⟨rfl,rfl⟩
 ·rw[if_neg h9]
  have q1:(k==9)=false:=by simpa using h9
  by_cases h5:5<=k
  ·rw[if_pos h5]
   have q2:decide (5<=k)=true:=by simpa using h5
   go_enter Tryz.func87,Tryz.ntmps87
   go_wp2_with fail
   go_ret
   exact⟨rfl,rfl⟩
  ·rw[if_neg h5]
   have q2:decide (5<=k)=false:=by simpa using h5
   go_enter Tryz.func87,Tryz.ntmps87
   go_wp2_with fail
   go_ret
   exact⟨rfl,rfl⟩
end Go.Proofs.YtedcakchekaemaaGreatDoor
namespace Go.Proofs.YtedcakchekaemaaGreatDoor
open Go.RowKit Go.Lib Go.Shelf
def nk(xs:List ByteArray):ByteArray:=⟨(Lib.join (xs.map (·.data.toList)) [47]).toArray⟩
theorem GI(x y:List UInt8)(t:List (List UInt8)):Lib.join (x::y::t) [47]=x++47::Lib.join (y::t) [47]:=by
 rw[Lib.join_cons,Lib.join_cons];unfold Lib.joinTail;simp
theorem wD:Builder.Extra Tryz.prog Tryz.laysJoin_ren where
 sizeBuilder:=by kernel_rfl
 liesBuilder:=by kernel_rfl
 t5:=Tryz.underlying5
 a5:=Tryz.isAgg5
 z5:=Tryz.sizeOf5
 v5:=Tryz.zeroValue5
 infoByte:=by kernel_rfl
 cellsByte:=by kernel_rfl
 sizeByte:=by kernel_rfl
 neB5:=by decide
theorem Py(xs:List ByteArray)(v:Value)(w:World)(h:aG nO w v xs)(hc:eZ v)(hl:xs.length<=1000)(hs:(nk xs).size<=1000):
  Calls Tryz.prog 90 #[v] w fun e w'=>e=.returned (.string (nk xs))/\ai [] w w':=by
 have hJ:Calls Tryz.prog 159 #[v,.string ⟨#[47]⟩] w fun e w'=>e=.returned (.string (nk xs))/\ai [] w w':=by
  rcases h with⟨rfl,rfl⟩|⟨b,o,c,rfl,hR⟩
  ·refine(Any.strings_Join_none Tryz.laysJoin wD none 0 ⟨#[47]⟩ w).mono ?_
   rintro e w' ⟨rfl,rfl⟩;exact⟨rfl,ai.refl _ _⟩
  ·by_cases hx:xs=[]
   ·subst hx
    refine(Any.strings_Join_none Tryz.laysJoin wD _ c ⟨#[47]⟩ w).mono ?_;rintro e w' ⟨rfl,rfl⟩;exact⟨rfl,ai.refl _ _⟩
   ·have hcells: ∀(j:Nat) x,xs[j]?=some x->w.cell? ⟨b,o+j,none⟩=some (.string x):=fun j x hj=>by
     refine hR j _ ?_;have:=fM lM xs j 0 x hj (by omega);simpa[nO]using this
    have hpos:0<xs.length:=List.length_pos_iff.2 hx;have hbk:b<w.heap.size:=block_lt_of_cell (hcells 0 xs[0] (List.getElem?_eq_getElem hpos));refine(Any.strings_Join Tryz.laysJoin wD b o c xs ⟨#[47]⟩ w hcells hbk (by omega) (hc _ _ _ rfl) ?_).mono ?_
    ·have:(nk xs).size=(Lib.join (xs.map (·.data.toList)) [47]).length:=by unfold nk;rfl
     show(Lib.join (xs.map (·.data.toList)) [47]).length<=_;omega
    ·rintro e w' ⟨rfl,hb⟩
     exact⟨rfl,ai.of_below hb (Nat.le_refl _)⟩
 replace hJ:=af hJ;obtain⟨a,cp,rfl⟩:=h.form;clear h hc hs;go_enter Tryz.func90,Tryz.ntmps90
 go_wp2_with(go_at_call 159;refine hJ.out.mono ?_;rintro e w2 ⟨rfl,hO2⟩;replace hO2:=af hO2)
 go_ret
 exact⟨rfl,hO2.out⟩
end Go.Proofs.YtedcakchekaemaaGreatDoor
namespace Go.Proofs.YtedcakchekaemaaGreatDoor
open Go.RowKit
def qV(w:World):Prop:= ∃m,w.cell? ⟨Tryz.laysContains_ren.g 1,0,none⟩=some (.int .i64 m)
theorem qV.own{w w':World}(h:qV w)(ho:ai [] w w'):qV w':=
 let⟨m,hm⟩:=h;⟨m,(ho.cell (block_lt_of_cell hm) (by simp)).trans hm⟩
def gP(s:ByteArray):Bool:=jq s&& !(Lib.contains s.data.toList [47])
theorem Pz(s:ByteArray)(w:World)(hT:ko w)(hM:qV w):Calls Tryz.prog 89 #[.string s] w fun e w'=>e=.returned (.bool (gP s))/\ai [] w w':=by
 have cN:=af (DC s w hT);by_cases hn:jq s=true
 ·have hs:s.size<=96:=by
   unfold jq ng at hn;simp at hn;omega
  have cC:=af (fun W (hM:qV W)=>(Any.strings_Contains Tryz.laysContains s ⟨#[47]⟩ hM.choose W (by omega) hM.choose_spec));have e1:gP s= !(Lib.contains s.data.toList [47]):=by unfold gP;rw[hn];rfl
  rw[e1];rw[hn]at cN;clear e1 hn hs;go_enter Tryz.func89,Tryz.ntmps89
  go_wp2_with fail
  with_reducible refine cN.out.mono ?_
  rintro e w2 ⟨rfl,hO⟩;change Hid _ at hO;go_wp2_with fail
  refine(cC.out _ (by exact hM.own hO.out)).mono ?_;rintro e w3 ⟨rfl,rfl⟩;go_wp2_with fail
  go_ret
  exact⟨rfl,hO.out⟩
 ·have hn2:jq s=false:=by simpa using hn
  have e1:gP s=false:=by unfold gP;rw[hn2];rfl
  rw[e1];rw[hn2]at cN;clear e1 hn hn2;go_enter Tryz.func89,Tryz.ntmps89
  go_wp2_with fail
  with_reducible refine cN.out.mono ?_
  rintro e w2 ⟨rfl,hO⟩;change Hid _ at hO;go_wp2_with fail
  go_ret
  exact⟨rfl,hO.out⟩
structure jv where
 k:Int
 g:ByteArray
 n:ByteArray
 d:ByteArray
def om:ByteArray:=⟨#[115,112,66,118,49,46,48]⟩
def yN:ByteArray:=⟨#[83,84,65,84,69]⟩
def ny(s:jv):List ByteArray:=if s.k=9 then[om,yN,s.n]else if 5<=s.k then[om,s.g,gu s.k,s.n,s.d]else[om,s.g,gu s.k,s.n]
def iM(s:jv):List ByteArray:=if s.k=9 then[s.n]else if 5<=s.k then[s.g,s.n,s.d]else[s.g,s.n]
def GJ(w:World)(A F:List ByteArray)(e:Ending)(w':World):Prop:= ∃a b:Nat,e=.returned (.tuple #[.slice (some ⟨a,0,none⟩) A.length A.length,.slice (some ⟨b,0,none⟩) F.length F.length])/\aG nO w' (.slice (some ⟨a,0,none⟩) A.length A.length) A/\aG nO w' (.slice (some ⟨b,0,none⟩) F.length F.length) F/\ai [] w w'
theorem Vj(l:List ByteArray):aI nO l=l.map Value.string:=by
 induction l with
 |nil=>rfl
 |cons x r ih=>unfold aI at*;rw[List.flatMap_cons,ih];rfl
theorem sw{W:World}{b:Nat}{A:List ByteArray}{T:TypeId}(h:W.heap[b]?=some (.cells (A.map Value.string).toArray T (0,0))):aG nO W (.slice (some ⟨b,0,none⟩) A.length A.length) A:=by
 refine .inr ⟨b,0,A.length,rfl,fun j u hu=>?_⟩;rw[Vj]at hu;rw[cell_of_row _ _ _ _ _ _ h,Nat.zero_add];simpa using hu
theorem wE{w W:World}(hO:ai [] w W)(A F:List ByteArray)(T:TypeId){a b:Nat}(ha:a=W.heap.size)(hb:b=W.heap.size+1):
  GJ w A F (.returned (.tuple #[.slice (some ⟨a,0,none⟩) A.length A.length,.slice (some ⟨b,0,none⟩) F.length F.length])) ((W.alloc (.cells (A.map Value.string).toArray T)).alloc (.cells (F.map Value.string).toArray T)).drew:=by
 subst ha hb;refine⟨_,_,rfl,sw (T:=T) ?_,sw (T:=T) (heap_alloc2_new _ _ _),((hO.alloc _).alloc _).drew⟩;exact((ai.refl [] (W.alloc (.cells (A.map Value.string).toArray T))).alloc (.cells (F.map Value.string).toArray T)).heap (heap_alloc_new W _) (by simp)
theorem wF{w W:World}(hO:ai [] w W)(A F:List ByteArray)(T:TypeId){a b:Nat}(hb:b=W.heap.size)(ha:a=W.heap.size+1):
  GJ w A F (.returned (.tuple #[.slice (some ⟨a,0,none⟩) A.length A.length,.slice (some ⟨b,0,none⟩) F.length F.length])) ((W.alloc (.cells (F.map Value.string).toArray T)).alloc (.cells (A.map Value.string).toArray T)).drew:=by
 subst ha hb;refine⟨_,_,rfl,sw (T:=T) (heap_alloc2_new _ _ _),sw (T:=T) ?_,((hO.alloc _).alloc _).drew⟩;exact((ai.refl [] (W.alloc (.cells (F.map Value.string).toArray T))).alloc (.cells (A.map Value.string).toArray T)).heap (heap_alloc_new W _) (by simp)
theorem fI{w:World}{b:Nat}{x0 x1 x2 x3:Value}{T:TypeId}(h:w.heap[b]?=some (.cells #[x0,x1,x2,x3] T (0,0))):
  w.cell? ⟨b,0,none⟩=some x0/\w.cell? ⟨b,1,none⟩=some x1/\w.cell? ⟨b,2,none⟩=some x2/\w.cell? ⟨b,3,none⟩=some x3:=
 ⟨by rw[cell_of_row _ _ _ _ _ _ h];rfl,by rw[cell_of_row _ _ _ _ _ _ h];rfl,by rw[cell_of_row _ _ _ _ _ _ h];rfl,by rw[cell_of_row _ _ _ _ _ _ h];rfl⟩
theorem Lm(s:jv)(w:World)(hW:dL w):Calls Tryz.prog 88 #[.agg #[.int .i64 s.k,.string s.g,.string s.n,.string s.d]] w (GJ w (ny s) (iM s)):=by
 obtain⟨k,g,n,d⟩:=s;have aL:ai [] w (w.alloc (.cells #[.int .i64 k,.string g,.string n,.string d] 76)):=(ai.refl _ _).alloc _;have hb:=heap_alloc_new w (.cells #[.int .i64 k,.string g,.string n,.string d] 76);have cW:=af (fun W=>AL k W);have cX:=af (fun W (h:dL W)=>Gz k W h);by_cases h9:k=9
 ·have e1:ny ⟨k,g,n,d⟩=[om,yN,n]:=by unfold ny;rw[if_pos h9]
  have e2:iM ⟨k,g,n,d⟩=[n]:=by unfold iM;rw[if_pos h9]
  have e3:fJ k=3:=by unfold fJ;rw[if_pos h9]
  rw[e1,e2];rw[e3]at cW;obtain⟨f0,f1,f2,f3⟩:=fI hb;change Hid _ at hb;clear h9 e1 e2 e3;go_enter Tryz.func88,Tryz.ntmps88
  go_wp2_with fail
  with_reducible refine(cW.out _).mono ?_
  rintro e w2 ⟨rfl,rfl⟩;go_wp2_with fail
  go_region_held3(fun W'=>W'.cell? ⟨w.heap.size,2,none⟩=some (.string n)) (go_keep) (fail)
  all_goals
   go_wp2_with fail
   go_ret2
   first
    |exact wE aL [om,yN,n] [n] 9 (by simp) (by simp)
    |exact wF aL [om,yN,n] [n] 9 (by simp) (by simp)
 ·have cY:=af (hW.own aL)
  have q9:(k==9)=false:=by simpa using h9
  by_cases h5:5<=k
  ·have e1:ny ⟨k,g,n,d⟩=[om,g,gu k,n,d]:=by unfold ny;rw[if_neg h9,if_pos h5]
   have e2:iM ⟨k,g,n,d⟩=[g,n,d]:=by unfold iM;rw[if_neg h9,if_pos h5]
   have e3:fJ k=5:=by unfold fJ;rw[if_neg h9,if_pos h5]
   rw[e1,e2];rw[e3]at cW;obtain⟨f0,f1,f2,f3⟩:=fI hb;change Hid _ at hb;have cZ:=af (fun W (h:ai [] (w.alloc (.cells #[.int .i64 k,.string g,.string n,.string d] 76)) W)=>cX.out W (cY.out.own h));clear h9 e1 e2 e3 h5 q9;go_enter Tryz.func88,Tryz.ntmps88
   go_wp2_with fail
   with_reducible refine(cW.out _).mono ?_
   rintro e w2 ⟨rfl,rfl⟩;go_wp2_with fail
   go_region_held3(fun W'=>W'.cell? ⟨w.heap.size,0,none⟩=some (.int .i64 k)/\W'.cell? ⟨w.heap.size,1,none⟩=some (.string g)/\W'.cell? ⟨w.heap.size,2,none⟩=some (.string n)/\W'.cell? ⟨w.heap.size,3,none⟩=some (.string d)) (go_keep) ((go_at_call 157;((with_reducible refine(cX.out _ (by first|exact cY.out.own ((ai.refl [] _).drew)|exact cY.out.own (((ai.refl [] _).alloc _).drew))).mono ?_);rintro e w2 ⟨rfl,rfl⟩)))
   all_goals
    go_wp2_with fail
    go_ret2
    first
     |exact wE aL [om,g,gu k,n,d] [g,n,d] 9 (by simp) (by simp)
     |exact wF aL [om,g,gu k,n,d] [g,n,d] 9 (by simp) (by simp)
  ·have e1:ny ⟨k,g,n,d⟩=[om,g,gu k,n]:=by unfold ny;rw[if_neg h9,if_neg h5]
   have e2:iM ⟨k,g,n,d⟩=[g,n]:=by unfold iM;rw[if_neg h9,if_neg h5]
   have e3:fJ k=4:=by unfold fJ;rw[if_neg h9,if_neg h5]
   rw[e1,e2];rw[e3]at cW;obtain⟨f0,f1,f2,f3⟩:=fI hb;change Hid _ at hb;have cZ:=af (fun W (h:ai [] (w.alloc (.cells #[.int .i64 k,.string g,.string n,.string d] 76)) W)=>cX.out W (cY.out.own h));clear h9 e1 e2 e3 h5 q9;go_enter Tryz.func88,Tryz.ntmps88
   go_wp2_with fail
   with_reducible refine(cW.out _).mono ?_
   rintro e w2 ⟨rfl,rfl⟩;go_wp2_with fail
   go_region_held3(fun W'=>W'.cell? ⟨w.heap.size,0,none⟩=some (.int .i64 k)/\W'.cell? ⟨w.heap.size,1,none⟩=some (.string g)/\W'.cell? ⟨w.heap.size,2,none⟩=some (.string n)) (go_keep) ((go_at_call 157;((with_reducible refine(cX.out _ (by first|exact cY.out.own ((ai.refl [] _).drew)|exact cY.out.own (((ai.refl [] _).alloc _).drew))).mono ?_);rintro e w2 ⟨rfl,rfl⟩)))
   all_goals
    go_wp2_with fail
    go_ret2
    first
     |exact wE aL [om,g,gu k,n] [g,n] 9 (by simp) (by simp)
     |exact wF aL [om,g,gu k,n] [g,n] 9 (by simp) (by simp)
end Go.Proofs.YtedcakchekaemaaGreatDoor
