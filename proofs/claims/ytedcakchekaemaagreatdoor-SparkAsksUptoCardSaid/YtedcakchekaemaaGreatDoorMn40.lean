import Derived.Test.YtedcakchekaemaaGreatDoorMn39
set_option maxRecDepth 100000
set_option maxHeartbeats 16000000
set_option linter.all false
namespace Go.Proofs.YtedcakchekaemaaGreatDoor
open Go.RowKit
variable [Kd]
theorem Qs{T:gN}{key:ByteArray}(h: ∀j,j<T.length->(T.map (·.1)).getD j ⟨#[]⟩≠key):aS T key=none/\ ∀v,bZ T key v=T++[(key,v)]:=by
 induction T with
 |nil=>exact⟨rfl,fun v=>rfl⟩
 |cons p r ih=>
  have h0:p.1≠key:=by have:=h 0 (by simp);simpa using this
  obtain⟨h1,h2⟩:=ih (fun j hj=>by have:=h (j+1) (by simp;omega);simpa using this);have hb:(p.1==key)=false:=by rw[beq_eq_false_iff_ne];exact h0
  refine⟨?_,fun v=>?_⟩
  ·unfold aS at h1⊢
   rw[List.find?_cons,hb];exact h1
  ·unfold bZ
   rw[if_neg (by simpa using h0),h2 v];rfl
theorem El: ∀{T:gN} {key:ByteArray} {i:Nat},i<T.length->(∀j,j<i->(T.map (·.1)).getD j ⟨#[]⟩≠key)->(T.map (·.1)).getD i ⟨#[]⟩=key->aS T key=some ((T.map (·.2)).getD i 0)/\ ∀v,(bZ T key v).map (·.1)=T.map (·.1)/\(bZ T key v).map (·.2)=(T.map (·.2)).set i v
 | [],_,i,hi,_,_=>by simp at hi
 |p::r,key,0,_,_,he=>by
  have h0:p.1=key:=by simpa using he
  have hb:(p.1==key)=true:=by simpa using h0
  refine⟨?_,fun v=>?_⟩
  ·unfold aS;rw[List.find?_cons,hb];simp
  ·unfold bZ;rw[if_pos hb];simp[h0]
 |p::r,key,i+1,hi,h,he=>by
  have h0:p.1≠key:=by have:=h 0 (by omega);simpa using this
  have hb:(p.1==key)=false:=by rw[beq_eq_false_iff_ne];exact h0
  obtain⟨h1,h2⟩:=El (T:=r) (key:=key) (i:=i) (by simpa using hi) (fun j hj=>by have:=h (j+1) (by omega);simpa using this) (by simpa using he);refine⟨?_,fun v=>?_⟩
  ·unfold aS at h1⊢
   rw[List.find?_cons,hb];simpa using h1
  ·unfold bZ
   rw[if_neg (by simpa using h0)];simp[h2 v]
theorem Qt(S:SP)(a:Int)(t x:ByteArray):(dK S a t x).1.g.size<=1048576/\(dK S a t x).1.n.size<=1048576:=by
 have h:=yC t;have hz:aG.size<=1048576:=by decide
 unfold dK;split
 ·exact⟨hz,hz⟩
 split
 ·exact⟨hz,h.2⟩
 ·split
  ·exact h
  ·unfold vw
   split
   ·exact h
   split
   ·exact h
   ·exact h
abbrev Ai(T:gN)(i:Nat):ByteArray:=(T.map (·.1)).getD i ⟨#[]⟩
theorem yF{k:ByteArray}{v:Int}{q:ByteArray×Int}: ∀{l:gN},q∈bZ l k v->q=(k,v)\/q∈l
 | [],h=>by unfold bZ at h;exact .inl (by simpa using h)
 |p::r,h=>by
  unfold bZ at h;split at h
  ·rcases List.mem_cons.1 h with h|h
   ·exact .inl h
   ·exact .inr (List.mem_cons_of_mem _ h)
  ·rcases List.mem_cons.1 h with h|h
   ·exact .inr (by rw[h];exact List.mem_cons_self)
   ·exact(yF h).imp id (List.mem_cons_of_mem _)
theorem Mh{T:gN}(h: ∀p∈T,0<=p.2/\p.2<=1000)(i:Nat):0<=(T.map (·.2)).getD i 0/\(T.map (·.2)).getD i 0<=1000:=by
 rw[List.getD_eq_getElem?_getD];cases hx:(T.map (·.2))[i]? with
 |none=>exact⟨Int.le_refl _,by simp⟩
 |some y=>
  obtain⟨p,hp,rfl⟩:=List.mem_map.1 (List.mem_of_getElem? hx);exact h p hp
def yG(TV:List kV)(j:Nat)(g n:ByteArray):Bool:=(TV.take j).any fun x=>x.g.toList==g.toList&&x.nm.toList==n.toList
theorem nY{TV:List kV}{j:Nat}(g n:ByteArray)(h:j<TV.length):yG TV (j+1) g n=(yG TV j g n||((TV[j].g.toList==g.toList)&&(TV[j].nm.toList==n.toList))):=by
 unfold yG;rw[List.take_add_one,List.getElem?_eq_getElem h,List.any_append];simp
theorem vC{TV:List kV}{S:SP}{vd:Vd}(h:(TV.map kV.say).Perm S.nodes):yG TV TV.length vd.g vd.n=Wi S vd:=by
 unfold yG Wi;rw[List.take_length,Bool.eq_iff_iff,List.any_eq_true,decide_eq_true_iff];constructor
 ·rintro⟨x,hx,hh⟩
  simp only[Bool.and_eq_true,beq_iff_eq]at hh;refine List.mem_map.2 ⟨x.say,h.mem_iff.1 (List.mem_map.2 ⟨x,hx,rfl⟩),?_⟩;unfold kV.say kV.key;simp only;rw[fH hh.1,fH hh.2]
 ·intro hh
  obtain⟨y,hy,e⟩:=List.mem_map.1 hh;obtain⟨x,hx,rfl⟩:=List.mem_map.1 (h.mem_iff.2 hy);refine⟨x,hx,?_⟩;unfold kV.say kV.key at e;simp only[Prod.mk.injEq]at e;simp[e.1,e.2]
theorem jE{B:Nat}{w5:World}{av:Option Addr}{n cv:Nat}{TV:List kV}(h:Sl 38 ug 8 B w5 (.slice av n cv) TV){j:Nat}(hj:j<TV.length): ∃gv,av=some ⟨gv,0,none⟩/\ ∀W,ai [] w5 W->W.cell? ⟨gv,j*8,none⟩=some (.string TV[j].g)/\W.cell? ⟨gv,j*8+1,none⟩=some (.string TV[j].nm):=by
 rcases h.form with⟨_,h2⟩|⟨g,cap,h1,h2,hR⟩
 ·rw[h2]at hj;simp at hj
 ·cases h1
  refine⟨g,rfl,fun W ho=>⟨?_,?_⟩⟩
  ·exact(hR.own ho (by simp)).cell qz (c:=0) (List.getElem?_eq_getElem hj) rfl
  ·exact(hR.own ho (by simp)).cell qz (c:=1) (List.getElem?_eq_getElem hj) rfl
theorem Qu{w w':World}{K:aU}(H:Ji w w' 0 K):oM w w' 0 K [] [] (.slice none 0 0) (.slice none 0 0):=⟨H,Sl.nil _ _ _,Sl.nil _ _ _,fun b hb=>(by cases hb),fun b hb=>(by cases hb),fun b hb=>(by cases hb)⟩
theorem Mi(a0:Option Addr)(n0 c0:Nat)(ms:Nat->Ej)(a1:Option Addr)(n1 c1:Nat)(zs:Nat->Int)(w:World)(h0:Qq w a0 n0 ms)(h1:wX .u8 w a1 n1 zs)(hL:qx w)
  (hA: ∀W,ai [] w W->Calls Tryz.prog 11 #[] W fun e w'=>e=.returned (.bool true)/\ai [] W w'):
  Calls Tryz.prog 3 #[.slice a0 n0 c0,.slice a1 n1 c1] w fun e w'=>e=.returned (.bool true)/\Below w.heap.size w w':=by
 have hl0:n0<=9223372036854775807:=by have:=h0.1;simp only[maxLen]at this;omega
 have hl1:n1<=9223372036854775807:=h1.1;have cN:=af (Wh w w (ai.refl _ _));replace h0:=af h0;replace h1:=af h1.2;change Hid _ at hA hL;go_enter Tryz.func3,Tryz.ntmps3
 go_wp2_with fail
 with_reducible refine cN.out.mono ?_
 rintro e w1 ⟨K0,rfl,hS0,acG,gV,acH⟩;have hJ0:=af (Qu hS0);have hR0:Hid (Qp 0 K0.sp []):=af ⟨hS0.inv,fun k=>by rw[acG];rfl⟩;generalize hp0:K0.p=p0;clear hS0 gV acH cN;go_wp2_with fail
 go_loopg[6,7,8,9] 40 (fun g s6 s7 s8 s9 wr=> ∃(k n:Nat) (K:aU) (T:gN) (now:Int),k<=n0/\k<=n1/\k<=40/\g=40-k/\s9=.int .i64 k/\s6=.int .i64 now/\K.p=p0/\Aside ((0<=now/\now<=15*k)/\(n<=k/\T.length<=k)/\oM w wr n K (T.map (·.1)) (T.map (·.2)) s7 s8/\(∀p∈T,0<=p.2/\p.2<=1000)/\Qp n K.sp T))
 case atStart=>exact⟨0,0,K0,[],0,by omega,by omega,by omega,rfl,rfl,rfl,hp0,⟨by omega,by omega⟩,⟨by omega,by simp⟩,hJ0.out,by simp,hR0.out⟩
 case round=>
  obtain⟨k,n,K,T,now,hk0,hk1,afd,rfl,rfl,rfl,hp,hAs⟩:=hrel;obtain⟨⟨afe,aff⟩,⟨hnk,Xh⟩,hM,Mx,hR⟩:=hAs;have eu:=hM.sk.own;clear hJ0 hR0;by_cases hlt:k<n0/\k<n1/\k<40
  ·obtain⟨k1,k2,k3⟩:=hlt
   obtain⟨b1,o1,rfl,hts,hb1,hx⟩:=h0.out.at' eu k1;obtain⟨b2,o2,rfl,hb2,hc2⟩:=h1.out (by omega);have hz:=(hc2 k k2).2;have hcs:wr.cell? ⟨b2,o2+k,none⟩=some (.int .u8 (zs k)):=(eu.cell (p:=⟨b2,o2+k,none⟩) hb2 (by simp)).trans (hc2 k k2).1;obtain⟨hz0,hz1⟩:=bounds_u8 hz;generalize zs k=s at*;generalize hmk:ms k=m at*;obtain⟨mt,mx,mq,mr⟩:=m;simp only at hts hx;obtain⟨d0,d1,d2,d3⟩:=hx wr eu;have k3':(k:Int)<40:=by omega
   by_cases hbig:1500<mx.size
   ·have hbig':(1500:Int)<mx.size:=by omega
    change Hid _ at hR;replace hM:=af hM;replace eu:=af eu;clear hx hz hc2;obtain⟨a7,c7,hs7⟩:=hM.out.who.sl;obtain⟨a8,c8,lX⟩:=hM.out.wen.sl;go_wp2_with fail
    go_roundg(40-(k+1))
    case measure=>omega
    case rel=>exact⟨k+1,n,K,T,now,by omega,by omega,by omega,by omega,by go_num,rfl,hp,⟨by omega,by omega⟩,⟨by omega,by omega⟩,hM.out,Mx,hR.out⟩
   ·have hbig': ¬(1500:Int)<mx.size:=by omega
    have ru:0<=now+s%16/\now+s%16<=15*(k+1):=by omega
    have cT:=Hr w wr n K (now+s%16) mt mx mq mr hM.sk hL.out hts (by omega) (by omega);have yM:=Tc hR (now+s%16) ⟨by omega,by omega⟩ mt mx;have hvs:=Qt K.sp (now+s%16) mt mx;rw[hp]at cT;generalize dK K.sp (now+s%16) mt mx=V at cT yM hvs;obtain⟨⟨vc,vg,vn,va⟩,S2⟩:=V;unfold Vf at cT;simp only at cT yM hvs;change Hid _ at hR yM;replace hM:=af hM;replace eu:=af eu;replace cT:=af cT;clear hx hz hc2;go_wp2_with fail
    with_reducible refine cT.out.mono ?_
    rintro e w2 ⟨rfl,K2,hS2,hsp2,hp2,hO2,hf2⟩;have hM2:=hM.out.take hS2 hO2 hf2;obtain⟨a7,c7,rfl⟩:=hM2.who.sl;obtain⟨a8,c8,rfl⟩:=hM2.wen.sl;simp only[List.length_map]at hM2⊢;change Hid _ at hsp2 hp2;replace hM2:=af hM2;clear cT hS2 hO2 hf2 hM hR d0 d1 d2 d3 hcs;obtain⟨hvg,hvn⟩:=hvs;go_wp2_with fail
    have dY:=hM2.out.nil' ((ai.refl [] w2).alloc (.cells #[.int .i64 vc,.string vg,.string vn,.bool va] 31));have hq3:=heap_alloc_new w2 (.cells #[.int .i64 vc,.string vg,.string vn,.bool va] 31);generalize(w2.alloc (.cells #[.int .i64 vc,.string vg,.string vn,.bool va] 31))=W3 at*;generalize w2.heap.size=q at*;change Hid _ at hq3;replace dY:=af dY;generalize wr=wq at*;clear hM2;have i1: ¬9223372036854775807<vg.size+1:=by omega
    have i2: ¬9223372036854775807<vg.size+1+vn.size:=by omega
    have i3: ¬9223372036854775807<(vg++⟨#[47]⟩).size+vn.size:=by
     rw[ByteArray.size_append];show¬9223372036854775807<vg.size+1+vn.size;omega
    have cV:Hid (∀W,ai [] W3 W->Calls Tryz.prog 10 #[aK p0] W (vB S2 W)):=af fun W ho=>by
     have:=LZ K2 W ((dY.out.nil' ho).sk.sk);rw[hp2.out,hsp2.out]at this;exact this
    go_loopg[11] T.length (fun g s11 wr=> ∃i:Nat,i<=T.length/\g=T.length-i/\s11=.int .i64 i/\Aside (ai [] W3 wr/\ ∀j,j<i->Ai T j≠bW vg vn))
    case atStart=>exact⟨0,by omega,by omega,rfl,ai.refl _ _,fun j hj=>by omega⟩
    case round=>
     obtain⟨i,hi,rfl,rfl,hO3,hno⟩:=hrel;obtain⟨e0,e1,e2,e3⟩:=fC (hO3.heap hq3.out (by simp));have Am:=af (dY.out.nil' hO3);by_cases hil:i<T.length
     ·obtain⟨g7,afg,he7,Y0⟩:=dY.out.key (i:=i) (by simpa using hil)
      simp only[Value.slice.injEq]at he7;obtain⟨rfl,-,rfl⟩:=he7;have ky:=Y0 wr hO3;clear Y0;by_cases he:Ai T i=bW vg vn
      ·have hne:((Ai T i).toList==(vg++⟨#[47]⟩++vn).toList)=true:=by rw[he];simp[bW]
       obtain⟨hget,hput⟩:=El hil hno he;obtain⟨g8,afh,he8,⟨c8',f8'⟩,_⟩:=Am.out.set8 (i:=i) (by simpa using hil) 0;simp only[Value.slice.injEq]at he8;obtain⟨he8,-,-⟩:=he8;subst he8;have htt:=Mh Mx i;generalize(T.map (·.2)).getD i 0=tt at hget c8' htt;have hdu:Hid (Ei T (bW vg vn) (now+s%16)=decide (10<=now+s%16-tt)):=af (by unfold Ei;rw[hget]);obtain⟨y,hy⟩: ∃y,Ai T i=y:=⟨_,rfl⟩;rw[hy]at hne;rw[show(T.map (·.1)).getD i ⟨#[]⟩=y from hy]at ky;change Hid _ at hO3 hno he hput;replace hy:=af hy;clear hget;by_cases h3:3<=vc
       ·by_cases hg0:vg=aG
        ·have hg1:vg.toList.isEmpty=true:=by rw[hg0,show aG.toList=[]by rw[Lib.toList_data];rfl];rfl
         have hrf:Hid (nX ⟨vc,vg,vn,va⟩=false):=af (by simp[nX,hg0]);change Hid _ at hg0;go_wp2_with fail
         go_quiet(fail)
         go_wp2_with fail
         refine(cV.out _ (hO3.out.drewN _)).mono ?_;rintro e w5 ⟨v,TV,rfl,lg,hsrt,nZ,hsh,aB⟩;obtain⟨av,cv,rfl⟩:=nZ.sl;have hkn:=vC (vd:=⟨vc,vg,vn,va⟩) lg;have hTV:TV.length<=8:=by have h8:=yM.out.2.inv.n8;have h9:=lg.length_eq;simp only[List.length_map]at h9;omega
         have mW:=af ((hO3.out.drewN _).trans aB);change Hid _ at nZ hkn aB;clear lg hsrt hsh e0 e1 e2 e3 ky;generalize wr=wu at*;go_wp2_with fail
         go_loopg[14,16] TV.length (fun g Q9 s16 wr=> ∃j:Nat,j<=TV.length/\g=TV.length-j/\s16=.int .i64 j/\Q9=.bool (yG TV j vg vn)/\Aside (ai [] w5 wr))
         case atStart=>exact⟨0,by omega,by omega,rfl,rfl,ai.refl _ _⟩
         case round=>
          obtain⟨j,hj,rfl,rfl,rfl,bI⟩:=hrel;obtain⟨e0,e1,e2,e3⟩:=fC ((mW.out.trans bI).heap hq3.out (by simp));by_cases hjl:j<TV.length
          ·obtain⟨gv,rfl,hcv⟩:=jE nZ.out hjl
           obtain⟨v0,v1⟩:=hcv wr bI;have hst:=nY vg vn hjl;obtain⟨kb,hkb⟩: ∃b,yG TV j vg vn=b:=⟨_,rfl⟩;obtain⟨b1',hb1'⟩: ∃b,(TV[j].g.toList==vg.toList)=b:=⟨_,rfl⟩;obtain⟨b2',hb2'⟩: ∃b,(TV[j].nm.toList==vn.toList)=b:=⟨_,rfl⟩;rw[hkb,hb1',hb2']at hst;rw[hkb];generalize TV[j].g=x0 at*;generalize TV[j].nm=x1 at*;change Hid _ at bI hst hkb;clear hcv;cases kb
           case' false=>cases b1'
           all_goals
            go_wp2_with fail
            go_quiet(fail)
            go_wp2_with fail
            go_roundg(TV.length-(j+1))
            case measure=>omega
            case rel=>exact⟨j+1,by omega,rfl,by go_num,by rw[hst.out];try rfl,bI.out.drewN _⟩
          ·have EI:j=TV.length:=by omega
           subst EI;have hk2:=hkn.out;obtain⟨kn,hkn'⟩: ∃b,yG TV TV.length vg vn=b:=⟨_,rfl⟩;rw[hkn']at hk2⊢;obtain⟨hva,hR2⟩:=yM.out;rw[<-hk2]at hva;have Im:=af (dY.out.nil' (mW.out.trans bI));change Hid _ at bI;clear hkn hk2 hkn' yM;rw[hrf.out,Bool.false_and,Bool.false_and]at hva;subst hva;rw[if_neg (by simp)]at hR2;change Hid _ at hR2;go_wp2_with fail
           go_roundg(40-(k+1))
           case measure=>omega
           case rel=>exact⟨k+1,n+1,K2,T,now+s%16,by omega,by omega,by omega,rfl,by go_num,rfl,hp2.out,⟨by omega,by omega⟩,⟨by omega,by omega⟩,Im.out,Mx,by rw[hsp2.out];exact hR2.out⟩
        ·have hg1:vg.toList.isEmpty=false:=by
          rw[Bool.eq_false_iff];intro hh;exact hg0 (fH (by rw[show aG.toList=[]by rw[Lib.toList_data];rfl];simpa using hh))
         have hrf:Hid (nX ⟨vc,vg,vn,va⟩=true):=af (by simp[nX,hg0,h3]);change Hid _ at hg0;go_wp2_with fail
         go_quiet(fail)
         go_wp2_with fail
         refine(cV.out _ (hO3.out.drewN _)).mono ?_;rintro e w5 ⟨v,TV,rfl,lg,hsrt,nZ,hsh,aB⟩;obtain⟨av,cv,rfl⟩:=nZ.sl;have hkn:=vC (vd:=⟨vc,vg,vn,va⟩) lg;have hTV:TV.length<=8:=by have h8:=yM.out.2.inv.n8;have h9:=lg.length_eq;simp only[List.length_map]at h9;omega
         have mW:=af ((hO3.out.drewN _).trans aB);change Hid _ at nZ hkn aB;clear lg hsrt hsh e0 e1 e2 e3 ky;generalize wr=wu at*;go_wp2_with fail
         go_loopg[14,16] TV.length (fun g Q9 s16 wr=> ∃j:Nat,j<=TV.length/\g=TV.length-j/\s16=.int .i64 j/\Q9=.bool (yG TV j vg vn)/\Aside (ai [] w5 wr))
         case atStart=>exact⟨0,by omega,by omega,rfl,rfl,ai.refl _ _⟩
         case round=>
          obtain⟨j,hj,rfl,rfl,rfl,bI⟩:=hrel;obtain⟨e0,e1,e2,e3⟩:=fC ((mW.out.trans bI).heap hq3.out (by simp));by_cases hjl:j<TV.length
          ·obtain⟨gv,rfl,hcv⟩:=jE nZ.out hjl
           obtain⟨v0,v1⟩:=hcv wr bI;have hst:=nY vg vn hjl;obtain⟨kb,hkb⟩: ∃b,yG TV j vg vn=b:=⟨_,rfl⟩;obtain⟨b1',hb1'⟩: ∃b,(TV[j].g.toList==vg.toList)=b:=⟨_,rfl⟩;obtain⟨b2',hb2'⟩: ∃b,(TV[j].nm.toList==vn.toList)=b:=⟨_,rfl⟩;rw[hkb,hb1',hb2']at hst;rw[hkb];generalize TV[j].g=x0 at*;generalize TV[j].nm=x1 at*;change Hid _ at bI hst hkb;clear hcv;cases kb
           case' false=>cases b1'
           all_goals
            go_wp2_with fail
            go_quiet(fail)
            go_wp2_with fail
            go_roundg(TV.length-(j+1))
            case measure=>omega
            case rel=>exact⟨j+1,by omega,rfl,by go_num,by rw[hst.out];try rfl,bI.out.drewN _⟩
          ·have EI:j=TV.length:=by omega
           subst EI;have hk2:=hkn.out;obtain⟨kn,hkn'⟩: ∃b,yG TV TV.length vg vn=b:=⟨_,rfl⟩;rw[hkn']at hk2⊢;obtain⟨hva,hR2⟩:=yM.out;rw[<-hk2]at hva;have Im:=af (dY.out.nil' (mW.out.trans bI));change Hid _ at bI;clear hkn hk2 hkn' yM;rw[hrf.out,Bool.true_and,hdu.out]at hva;cases kn
           ·rw[Bool.false_and]at hva
            subst hva;rw[if_neg (by simp)]at hR2;change Hid _ at hR2;go_wp2_with fail
            go_roundg(40-(k+1))
            case measure=>omega
            case rel=>exact⟨k+1,n+1,K2,T,now+s%16,by omega,by omega,by omega,rfl,by go_num,rfl,hp2.out,⟨by omega,by omega⟩,⟨by omega,by omega⟩,Im.out,Mx,by rw[hsp2.out];exact hR2.out⟩
           ·rw[Bool.true_and]at hva
            by_cases hd:10<=now+s%16-tt
            ·rw[decide_eq_true hd]at hva
             subst hva;rw[if_pos rfl]at hR2;have hpm:=(hput.out (now+s%16));generalize lC:bZ T (bW vg vn) (now+s%16)=T2 at*;change Hid _ at hR2;obtain⟨g9,afk,he9,⟨z8,zf⟩,hset⟩:=Im.out.set8 (i:=i) (by simpa using hil) (now+s%16);simp only[Value.slice.injEq]at he9;obtain⟨he9,-,-⟩:=he9;cases he9;change Hid _ at hset;go_wp2_with fail
             go_roundg(40-(k+1))
             case measure=>omega
             case rel=>exact⟨k+1,n+1,K2,T2,now+s%16,by omega,by omega,by omega,rfl,by go_num,rfl,hp2.out,⟨by omega,by omega⟩,⟨by omega,by have:=congrArg List.length hpm.1;simp at this;omega⟩,by rw[hpm.1,hpm.2];exact hset.out _ (ai.refl _ _),fun p hp=>by rw[<-lC]at hp;rcases yF hp with rfl|hp;exact⟨by omega,by omega⟩;exact Mx p hp,by rw[hsp2.out];exact hR2.out⟩
            ·rw[decide_eq_false hd]at hva
             subst hva;rw[if_neg (by simp)]at hR2;change Hid _ at hR2;go_wp2_with fail
             go_roundg(40-(k+1))
             case measure=>omega
             case rel=>exact⟨k+1,n+1,K2,T,now+s%16,by omega,by omega,by omega,rfl,by go_num,rfl,hp2.out,⟨by omega,by omega⟩,⟨by omega,by omega⟩,Im.out,Mx,by rw[hsp2.out];exact hR2.out⟩
       ·have hrf:Hid (nX ⟨vc,vg,vn,va⟩=false):=af (by simp[nX,h3])
        go_wp2_with fail
        go_quiet(fail)
        go_wp2_with fail
        refine(cV.out _ (hO3.out.drewN _)).mono ?_;rintro e w5 ⟨v,TV,rfl,lg,hsrt,nZ,hsh,aB⟩;obtain⟨av,cv,rfl⟩:=nZ.sl;have hkn:=vC (vd:=⟨vc,vg,vn,va⟩) lg;have hTV:TV.length<=8:=by have h8:=yM.out.2.inv.n8;have h9:=lg.length_eq;simp only[List.length_map]at h9;omega
        have mW:=af ((hO3.out.drewN _).trans aB);change Hid _ at nZ hkn aB;clear lg hsrt hsh e0 e1 e2 e3 ky;generalize wr=wu at*;go_wp2_with fail
        go_loopg[14,16] TV.length (fun g Q9 s16 wr=> ∃j:Nat,j<=TV.length/\g=TV.length-j/\s16=.int .i64 j/\Q9=.bool (yG TV j vg vn)/\Aside (ai [] w5 wr))
        case atStart=>exact⟨0,by omega,by omega,rfl,rfl,ai.refl _ _⟩
        case round=>
         obtain⟨j,hj,rfl,rfl,rfl,bI⟩:=hrel;obtain⟨e0,e1,e2,e3⟩:=fC ((mW.out.trans bI).heap hq3.out (by simp));by_cases hjl:j<TV.length
         ·obtain⟨gv,rfl,hcv⟩:=jE nZ.out hjl
          obtain⟨v0,v1⟩:=hcv wr bI;have hst:=nY vg vn hjl;obtain⟨kb,hkb⟩: ∃b,yG TV j vg vn=b:=⟨_,rfl⟩;obtain⟨b1',hb1'⟩: ∃b,(TV[j].g.toList==vg.toList)=b:=⟨_,rfl⟩;obtain⟨b2',hb2'⟩: ∃b,(TV[j].nm.toList==vn.toList)=b:=⟨_,rfl⟩;rw[hkb,hb1',hb2']at hst;rw[hkb];generalize TV[j].g=x0 at*;generalize TV[j].nm=x1 at*;change Hid _ at bI hst hkb;clear hcv;cases kb
          case' false=>cases b1'
          all_goals
           go_wp2_with fail
           go_quiet(fail)
           go_wp2_with fail
           go_roundg(TV.length-(j+1))
           case measure=>omega
           case rel=>exact⟨j+1,by omega,rfl,by go_num,by rw[hst.out];try rfl,bI.out.drewN _⟩
         ·have EI:j=TV.length:=by omega
          subst EI;have hk2:=hkn.out;obtain⟨kn,hkn'⟩: ∃b,yG TV TV.length vg vn=b:=⟨_,rfl⟩;rw[hkn']at hk2⊢;obtain⟨hva,hR2⟩:=yM.out;rw[<-hk2]at hva;have Im:=af (dY.out.nil' (mW.out.trans bI));change Hid _ at bI;clear hkn hk2 hkn' yM;rw[hrf.out,Bool.false_and,Bool.false_and]at hva;subst hva;rw[if_neg (by simp)]at hR2;change Hid _ at hR2;go_wp2_with fail
          go_roundg(40-(k+1))
          case measure=>omega
          case rel=>exact⟨k+1,n+1,K2,T,now+s%16,by omega,by omega,by omega,rfl,by go_num,rfl,hp2.out,⟨by omega,by omega⟩,⟨by omega,by omega⟩,Im.out,Mx,by rw[hsp2.out];exact hR2.out⟩
      ·have hne:((Ai T i).toList==(vg++⟨#[47]⟩++vn).toList)=false:=by
        rw[Bool.eq_false_iff];intro hh;exact he (fH (by simpa[bW]using hh))
       obtain⟨y,hy⟩: ∃y,Ai T i=y:=⟨_,rfl⟩;rw[hy]at hne;rw[show(T.map (·.1)).getD i ⟨#[]⟩=y from hy]at ky;change Hid _ at hO3 he hno;replace hy:=af hy;go_wp2_with fail
       go_quiet(fail)
       go_wp2_with fail
       go_roundg(T.length-(i+1))
       case measure=>omega
       case rel=>exact⟨i+1,by omega,rfl,by go_num,hO3.out.drewN _,fun j hj=>by
        rcases Nat.lt_or_ge j i with h5|h5
        ·exact hno.out j h5
        ·have:j=i:=by omega
         subst this;rw[hy.out];exact fun e=>he.out (hy.out.trans e)⟩
     ·have hie:i=T.length:=by omega
      subst hie;obtain⟨hget,hput⟩:=Qs hno;have hdu:Hid (Ei T (bW vg vn) (now+s%16)=true):=af (by unfold Ei;rw[hget]);change Hid _ at hO3 hno hput;have ky:True:=trivial;clear hget;by_cases h3:3<=vc
      ·by_cases hg0:vg=aG
       ·have hg1:vg.toList.isEmpty=true:=by rw[hg0,show aG.toList=[]by rw[Lib.toList_data];rfl];rfl
        have hrf:Hid (nX ⟨vc,vg,vn,va⟩=false):=af (by simp[nX,hg0]);change Hid _ at hg0;go_wp2_with fail
        go_quiet(fail)
        go_wp2_with fail
        refine(cV.out _ (hO3.out.drewN _)).mono ?_;rintro e w5 ⟨v,TV,rfl,lg,hsrt,nZ,hsh,aB⟩;obtain⟨av,cv,rfl⟩:=nZ.sl;have hkn:=vC (vd:=⟨vc,vg,vn,va⟩) lg;have hTV:TV.length<=8:=by have h8:=yM.out.2.inv.n8;have h9:=lg.length_eq;simp only[List.length_map]at h9;omega
        have mW:=af ((hO3.out.drewN _).trans aB);change Hid _ at nZ hkn aB;clear lg hsrt hsh e0 e1 e2 e3 ky;generalize wr=wu at*;go_wp2_with fail
        go_loopg[14,16] TV.length (fun g Q9 s16 wr=> ∃j:Nat,j<=TV.length/\g=TV.length-j/\s16=.int .i64 j/\Q9=.bool (yG TV j vg vn)/\Aside (ai [] w5 wr))
        case atStart=>exact⟨0,by omega,by omega,rfl,rfl,ai.refl _ _⟩
        case round=>
         obtain⟨j,hj,rfl,rfl,rfl,bI⟩:=hrel;obtain⟨e0,e1,e2,e3⟩:=fC ((mW.out.trans bI).heap hq3.out (by simp));by_cases hjl:j<TV.length
         ·obtain⟨gv,rfl,hcv⟩:=jE nZ.out hjl
          obtain⟨v0,v1⟩:=hcv wr bI;have hst:=nY vg vn hjl;obtain⟨kb,hkb⟩: ∃b,yG TV j vg vn=b:=⟨_,rfl⟩;obtain⟨b1',hb1'⟩: ∃b,(TV[j].g.toList==vg.toList)=b:=⟨_,rfl⟩;obtain⟨b2',hb2'⟩: ∃b,(TV[j].nm.toList==vn.toList)=b:=⟨_,rfl⟩;rw[hkb,hb1',hb2']at hst;rw[hkb];generalize TV[j].g=x0 at*;generalize TV[j].nm=x1 at*;change Hid _ at bI hst hkb;clear hcv;cases kb
          case' false=>cases b1'
          all_goals
           go_wp2_with fail
           go_quiet(fail)
           go_wp2_with fail
           go_roundg(TV.length-(j+1))
           case measure=>omega
           case rel=>exact⟨j+1,by omega,rfl,by go_num,by rw[hst.out];try rfl,bI.out.drewN _⟩
         ·have EI:j=TV.length:=by omega
          subst EI;have hk2:=hkn.out;obtain⟨kn,hkn'⟩: ∃b,yG TV TV.length vg vn=b:=⟨_,rfl⟩;rw[hkn']at hk2⊢;obtain⟨hva,hR2⟩:=yM.out;rw[<-hk2]at hva;have Im:=af (dY.out.nil' (mW.out.trans bI));change Hid _ at bI;clear hkn hk2 hkn' yM;rw[hrf.out,Bool.false_and,Bool.false_and]at hva;subst hva;rw[if_neg (by simp)]at hR2;change Hid _ at hR2;go_wp2_with fail
          go_roundg(40-(k+1))
          case measure=>omega
          case rel=>exact⟨k+1,n+1,K2,T,now+s%16,by omega,by omega,by omega,rfl,by go_num,rfl,hp2.out,⟨by omega,by omega⟩,⟨by omega,by omega⟩,Im.out,Mx,by rw[hsp2.out];exact hR2.out⟩
       ·have hg1:vg.toList.isEmpty=false:=by
         rw[Bool.eq_false_iff];intro hh;exact hg0 (fH (by rw[show aG.toList=[]by rw[Lib.toList_data];rfl];simpa using hh))
        have hrf:Hid (nX ⟨vc,vg,vn,va⟩=true):=af (by simp[nX,hg0,h3]);change Hid _ at hg0;go_wp2_with fail
        go_quiet(fail)
        go_wp2_with fail
        refine(cV.out _ (hO3.out.drewN _)).mono ?_;rintro e w5 ⟨v,TV,rfl,lg,hsrt,nZ,hsh,aB⟩;obtain⟨av,cv,rfl⟩:=nZ.sl;have hkn:=vC (vd:=⟨vc,vg,vn,va⟩) lg;have hTV:TV.length<=8:=by have h8:=yM.out.2.inv.n8;have h9:=lg.length_eq;simp only[List.length_map]at h9;omega
        have mW:=af ((hO3.out.drewN _).trans aB);change Hid _ at nZ hkn aB;clear lg hsrt hsh e0 e1 e2 e3 ky;generalize wr=wu at*;go_wp2_with fail
        go_loopg[14,16] TV.length (fun g Q9 s16 wr=> ∃j:Nat,j<=TV.length/\g=TV.length-j/\s16=.int .i64 j/\Q9=.bool (yG TV j vg vn)/\Aside (ai [] w5 wr))
        case atStart=>exact⟨0,by omega,by omega,rfl,rfl,ai.refl _ _⟩
        case round=>
         obtain⟨j,hj,rfl,rfl,rfl,bI⟩:=hrel;obtain⟨e0,e1,e2,e3⟩:=fC ((mW.out.trans bI).heap hq3.out (by simp));by_cases hjl:j<TV.length
         ·obtain⟨gv,rfl,hcv⟩:=jE nZ.out hjl
          obtain⟨v0,v1⟩:=hcv wr bI;have hst:=nY vg vn hjl;obtain⟨kb,hkb⟩: ∃b,yG TV j vg vn=b:=⟨_,rfl⟩;obtain⟨b1',hb1'⟩: ∃b,(TV[j].g.toList==vg.toList)=b:=⟨_,rfl⟩;obtain⟨b2',hb2'⟩: ∃b,(TV[j].nm.toList==vn.toList)=b:=⟨_,rfl⟩;rw[hkb,hb1',hb2']at hst;rw[hkb];generalize TV[j].g=x0 at*;generalize TV[j].nm=x1 at*;change Hid _ at bI hst hkb;clear hcv;cases kb
          case' false=>cases b1'
          all_goals
           go_wp2_with fail
           go_quiet(fail)
           go_wp2_with fail
           go_roundg(TV.length-(j+1))
           case measure=>omega
           case rel=>exact⟨j+1,by omega,rfl,by go_num,by rw[hst.out];try rfl,bI.out.drewN _⟩
         ·have EI:j=TV.length:=by omega
          subst EI;have hk2:=hkn.out;obtain⟨kn,hkn'⟩: ∃b,yG TV TV.length vg vn=b:=⟨_,rfl⟩;rw[hkn']at hk2⊢;obtain⟨hva,hR2⟩:=yM.out;rw[<-hk2]at hva;have Im:=af (dY.out.nil' (mW.out.trans bI));change Hid _ at bI;clear hkn hk2 hkn' yM;rw[hrf.out,Bool.true_and,hdu.out]at hva;cases kn
          ·rw[Bool.false_and]at hva
           subst hva;rw[if_neg (by simp)]at hR2;change Hid _ at hR2;go_wp2_with fail
           go_roundg(40-(k+1))
           case measure=>omega
           case rel=>exact⟨k+1,n+1,K2,T,now+s%16,by omega,by omega,by omega,rfl,by go_num,rfl,hp2.out,⟨by omega,by omega⟩,⟨by omega,by omega⟩,Im.out,Mx,by rw[hsp2.out];exact hR2.out⟩
          ·rw[Bool.true_and]at hva
           subst hva;rw[if_pos rfl,hput.out]at hR2;change Hid _ at hR2;have zk:=af Im.out.sk.own;have hA1:=af ((ai.refl [] wr).alloc (.cells #[.string (vg++⟨#[47]⟩++vn)] 9));have hR7:=af (aA.new (enc:=BM) (T:=9) wr (vg++⟨#[47]⟩++vn) 1);have hM7:=af (Im.out.nil' hA1.out);go_wp2_with(first
            |(at_builtin;refine aO rfl (.tmp 143) (.tmp 150) rfl Ba (zk.out.trans hA1.out) rfl hM7.out.who rfl hR7.out (by simp;omega) (by unfold maxLen;simp;omega) ?_;intro va7 w7 mU _ _ hg2 hg3;have hM8:=hM7.out.push7 mU hg2 hg3;obtain⟨aa,ca,rfl⟩:=mU.sl;have hOb:=af hM8.sk.own;have hA2:=af ((ai.refl [] w7).alloc (.cells #[.int .i64 (now+s%16)] 3));have hR8:=af (aA.new (enc:=iL) (T:=3) w7 (now+s%16) 1);have hM9:=af (hM8.nil' hA2.out);clear mU hg2 hg3 hM8)
            |(at_builtin;refine aO rfl (.tmp 152) (.tmp 154) rfl Ox (hOb.out.trans hA2.out) rfl hM9.out.wen rfl hR8.out (by simp;omega) (by unfold maxLen;simp;omega) ?_;intro va8 w8 hSb _ _ hg4 hg5;have ZX:=hM9.out.push8 hSb hg4 hg5;obtain⟨ab,cb,rfl⟩:=hSb.sl;replace ZX:=af ZX;clear hSb hg4 hg5))
           go_roundg(40-(k+1))
           case measure=>omega
           case rel=>exact⟨k+1,n+1,K2,T++[(bW vg vn,now+s%16)],now+s%16,by omega,by omega,by omega,rfl,by go_num,rfl,hp2.out,⟨by omega,by omega⟩,⟨by omega,by simp;omega⟩,by simpa[bW]using ZX.out,fun p hp=>by rcases List.mem_append.1 hp with hp|hp;exact Mx p hp;rw[List.mem_singleton]at hp;subst hp;exact⟨by omega,by omega⟩,by rw[hsp2.out];exact hR2.out⟩
      ·have hrf:Hid (nX ⟨vc,vg,vn,va⟩=false):=af (by simp[nX,h3])
       go_wp2_with fail
       go_quiet(fail)
       go_wp2_with fail
       refine(cV.out _ (hO3.out.drewN _)).mono ?_;rintro e w5 ⟨v,TV,rfl,lg,hsrt,nZ,hsh,aB⟩;obtain⟨av,cv,rfl⟩:=nZ.sl;have hkn:=vC (vd:=⟨vc,vg,vn,va⟩) lg;have hTV:TV.length<=8:=by have h8:=yM.out.2.inv.n8;have h9:=lg.length_eq;simp only[List.length_map]at h9;omega
       have mW:=af ((hO3.out.drewN _).trans aB);change Hid _ at nZ hkn aB;clear lg hsrt hsh e0 e1 e2 e3 ky;generalize wr=wu at*;go_wp2_with fail
       go_loopg[14,16] TV.length (fun g Q9 s16 wr=> ∃j:Nat,j<=TV.length/\g=TV.length-j/\s16=.int .i64 j/\Q9=.bool (yG TV j vg vn)/\Aside (ai [] w5 wr))
       case atStart=>exact⟨0,by omega,by omega,rfl,rfl,ai.refl _ _⟩
       case round=>
        obtain⟨j,hj,rfl,rfl,rfl,bI⟩:=hrel;obtain⟨e0,e1,e2,e3⟩:=fC ((mW.out.trans bI).heap hq3.out (by simp));by_cases hjl:j<TV.length
        ·obtain⟨gv,rfl,hcv⟩:=jE nZ.out hjl
         obtain⟨v0,v1⟩:=hcv wr bI;have hst:=nY vg vn hjl;obtain⟨kb,hkb⟩: ∃b,yG TV j vg vn=b:=⟨_,rfl⟩;obtain⟨b1',hb1'⟩: ∃b,(TV[j].g.toList==vg.toList)=b:=⟨_,rfl⟩;obtain⟨b2',hb2'⟩: ∃b,(TV[j].nm.toList==vn.toList)=b:=⟨_,rfl⟩;rw[hkb,hb1',hb2']at hst;rw[hkb];generalize TV[j].g=x0 at*;generalize TV[j].nm=x1 at*;change Hid _ at bI hst hkb;clear hcv;cases kb
         case' false=>cases b1'
         all_goals
          go_wp2_with fail
          go_quiet(fail)
          go_wp2_with fail
          go_roundg(TV.length-(j+1))
          case measure=>omega
          case rel=>exact⟨j+1,by omega,rfl,by go_num,by rw[hst.out];try rfl,bI.out.drewN _⟩
        ·have EI:j=TV.length:=by omega
         subst EI;have hk2:=hkn.out;obtain⟨kn,hkn'⟩: ∃b,yG TV TV.length vg vn=b:=⟨_,rfl⟩;rw[hkn']at hk2⊢;obtain⟨hva,hR2⟩:=yM.out;rw[<-hk2]at hva;have Im:=af (dY.out.nil' (mW.out.trans bI));change Hid _ at bI;clear hkn hk2 hkn' yM;rw[hrf.out,Bool.false_and,Bool.false_and]at hva;subst hva;rw[if_neg (by simp)]at hR2;change Hid _ at hR2;go_wp2_with fail
         go_roundg(40-(k+1))
         case measure=>omega
         case rel=>exact⟨k+1,n+1,K2,T,now+s%16,by omega,by omega,by omega,rfl,by go_num,rfl,hp2.out,⟨by omega,by omega⟩,⟨by omega,by omega⟩,Im.out,Mx,by rw[hsp2.out];exact hR2.out⟩
  ·have hex:(¬k<n0)\/(k<n0/\ ¬k<n1)\/(k<n0/\k<n1/\ ¬((k:Int)<40)):=by omega
   have cA:=af (hA.out wr eu);change Hid _ at hR;replace hM:=af hM;replace eu:=af eu;clear hlt;rcases hex with h2|⟨h2,h3⟩|⟨h2,h3,h4⟩
   all_goals
    go_wp2_with(go_at_call 11;(with_reducible refine cA.out.mono ?_);rintro e w9 ⟨rfl,o7⟩;replace o7:=af o7)
    go_ret
    exact⟨rfl,(eu.out.trans o7.out).below (Nat.le_refl _) (by simp)⟩
end Go.Proofs.YtedcakchekaemaaGreatDoor
namespace Go.Proofs.YtedcakchekaemaaGreatDoor
open Go.RowKit
theorem Qz(a0:Option Addr)(n0 c0:Nat)(ms:Nat->Ej)(a1:Option Addr)(n1 c1:Nat)(zs:Nat->Int)(w:World)(h0:Qq w a0 n0 ms)(_u:True)(h1:wX .u8 w a1 n1 zs)(hT:(∃kd:Kd,@qx kd w)/\rR w):
  Calls Tryz.prog 3 #[.slice a0 n0 c0,.slice a1 n1 c1] w fun e w'=>e=.returned (.bool true)/\Below w.heap.size w w':=by
 obtain⟨⟨kd,hL⟩,hT⟩:=hT;exact @Mi kd a0 n0 c0 ms a1 n1 c1 zs w h0 h1 hL (fun W ho=>Tm W (hT.own ho))
end Go.Proofs.YtedcakchekaemaaGreatDoor
