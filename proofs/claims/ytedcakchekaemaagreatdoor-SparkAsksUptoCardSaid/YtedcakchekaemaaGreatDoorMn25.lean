import Derived.Test.YtedcakchekaemaaGreatDoorMn23
import Derived.Test.YtedcakchekaemaaGreatDoorMn20
set_option maxRecDepth 100000
set_option maxHeartbeats 16000000
set_option linter.all false
namespace Go.Proofs.YtedcakchekaemaaGreatDoor
open Go.RowKit
theorem Vw(n:Nat)(a:Addr)(w:World):(method (n+1) 286 (.pointer (some a)) "Push").run Tryz.prog w=.ok (377,.pointer (some a)) w:=by kernel_rfl
theorem NA(n:Nat)(a:Addr)(w:World):(method (n+1) 286 (.pointer (some a)) "Pop").run Tryz.prog w=.ok (376,.pointer (some a)) w:=by kernel_rfl
theorem Vx(n:Nat)(a:Addr)(w:World):(method (n+1) 286 (.pointer (some a)) "Len").run Tryz.prog w=(Sem.load .plain a fun v=>Sem.pure (372,v)).run Tryz.prog w:=by kernel_rfl
theorem UY(n:Nat)(a:Addr)(v:Value)(w:World)(h:w.cell? a=some v):(method (n+1) 286 (.pointer (some a)) "Len").run Tryz.prog w=.ok (372,v) w:=by
 rw[Vx];simp[Sem.run,h]
theorem Rt(n:Nat)(a:Addr)(w:World):(method (n+1) 286 (.pointer (some a)) "Less").run Tryz.prog w=(Sem.load .plain a fun v=>Sem.pure (373,v)).run Tryz.prog w:=by kernel_rfl
theorem Ff(n:Nat)(a:Addr)(v:Value)(w:World)(h:w.cell? a=some v):(method (n+1) 286 (.pointer (some a)) "Less").run Tryz.prog w=.ok (373,v) w:=by
 rw[Rt];simp[Sem.run,h]
theorem Ru(n:Nat)(a:Addr)(w:World):(method (n+1) 286 (.pointer (some a)) "Swap").run Tryz.prog w=(Sem.load .plain a fun v=>Sem.pure (374,v)).run Tryz.prog w:=by kernel_rfl
theorem xg(n:Nat)(a:Addr)(v:Value)(w:World)(h:w.cell? a=some v):(method (n+1) 286 (.pointer (some a)) "Swap").run Tryz.prog w=.ok (374,v) w:=by
 rw[Ru];simp[Sem.run,h]
def bA(n:Nat)(ms ms':List Mk):Prop:=ms'.Perm ms/\ ∀k,n<=k->ms'[k]?=ms[k]?
theorem bA.refl(n:Nat)(ms:List Mk):bA n ms ms:=⟨List.Perm.refl _,fun _ _=>rfl⟩
theorem bA.trans{n:Nat}{a b c:List Mk}(h:bA n a b)(k:bA n b c):bA n a c:=⟨k.1.trans h.1,fun i hi=>(k.2 i hi).trans (h.2 i hi)⟩
theorem bA.mono{n n':Nat}{a b:List Mk}(h:bA n a b)(hn:n<=n'):bA n' a b:=⟨h.1,fun i hi=>h.2 i (by omega)⟩
theorem bA.len{n:Nat}{a b:List Mk}(h:bA n a b):b.length=a.length:=h.1.length_eq
theorem xh(ms:List Mk)(i j:Nat)(hi:i<ms.length)(hj:j<ms.length):(swp ms i j).Perm ms:=by
 unfold swp;simp only[List.getD,List.getElem?_eq_getElem hi,List.getElem?_eq_getElem hj,Option.getD_some];exact List.set_set_perm hi hj
theorem bA.swp{n:Nat}(ms:List Mk)(i j:Nat)(hi:i<n)(hj:j<n)(hn:n<=ms.length):bA n ms (swp ms i j):=by
 refine⟨xh ms i j (by omega) (by omega),fun k hk=>?_⟩;unfold Proofs.YtedcakchekaemaaGreatDoor.swp;rw[List.getElem?_set_ne (by omega),List.getElem?_set_ne (by omega)]
theorem bM.withMarks{w w':World}{rb:Nat}{gap:Int}{v:Value}{ms ms':List Mk}(h:bM w rb gap v ms)(hm:rD w' v ms')(hp:ms'.Perm ms)(ho:ai v.ownBlock.toList w w'):bM w' rb gap v ms':=
 ⟨ho.heap h.row (by simpa using h.ne),hm,h.ne,fun x hx=>h.apart x (hp.mem_iff.1 hx)⟩
theorem bM.own{S:List Nat}{w w':World}{rb:Nat}{gap:Int}{v:Value}{ms:List Mk}(h:bM w rb gap v ms)(ho:ai S w w')(h1:rb∉S)(h2: ∀g,v.ownBlock=some g->g∉S)(h3: ∀x∈ms,x.blk∉S):bM w' rb gap v ms:=by
 refine⟨ho.heap h.row h1,⟨?_,fun x hx=>⟨ho.heap (h.marks.marks x hx).1 (h3 x hx),(h.marks.marks x hx).2⟩,h.marks.apart⟩,h.ne,h.apart⟩;obtain⟨q1,q2|⟨g,cap,cur,q3,q4,q5,q6⟩⟩:=h.marks.own
 ·exact⟨q1,.inl q2⟩
 ·exact⟨q1,.inr ⟨g,cap,cur,q3,q4,ho.heap q5 (h2 g (by rw[q3];rfl)),q6⟩⟩
theorem bM.nil{w w':World}{rb:Nat}{gap:Int}{v:Value}{ms:List Mk}(h:bM w rb gap v ms)(ho:ai [] w w'):bM w' rb gap v ms:=h.own ho (by simp) (by simp) (by simp)
def Co(w:World)(rb:Nat)(gap:Int)(v:Value)(n:Nat)(ms:List Mk)(r:Value)(e:Ending)(w':World):Prop:=
 ∃ms',e=.returned r/\bM w' rb gap v ms'/\bA n ms ms'/\ai v.ownBlock.toList w w'
theorem NC(rb:Nat)(gap:Int)(v:Value)(ms:List Mk)(j:Nat)(w:World)(h:bM w rb gap v ms)(hj:j<ms.length)(hl:ms.length<=1000):
  Calls Tryz.prog 232 #[.iface 286 (.pointer (some ⟨rb,1,none⟩)),.int .i64 j] w (Co w rb gap v (j+1) ms (.tuple #[])):=by
 change Hid _ at h;go_enter Tryz.func232,Tryz.ntmps232
 go_wp2_with fail
 go_loopg[1] j (fun g s1 wr=> ∃(ms':List Mk),g<=j/\s1=.int .i64 g/\bM wr rb gap v ms'/\bA (j+1) ms ms'/\ai v.ownBlock.toList w wr)
 case atStart=>exact⟨ms,Nat.le_refl _,rfl,h.out,bA.refl _ _,ai.refl _ _⟩
 case round=>
  obtain⟨ms',hg,rfl,hR,hS,hO⟩:=hrel;have c1:wr.cell? ⟨rb,1,none⟩=some v:=cell_of_row wr rb 1 _ _ _ hR.row;by_cases hk:gk=0
  ·subst hk
   go_wp2_with fail
   go_end0
   exact⟨ms',rfl,hR,hS,hO⟩
  ·obtain⟨k,rfl⟩: ∃k,gk=k+1:=⟨gk-1,by omega⟩
   obtain⟨i,hi⟩: ∃i:Nat,(k:Int)/2=i:=⟨k/2,by omega⟩;have hik:i<=k:=by omega
   have hlen:=hS.len;have hm1:=fun n=>Ff n _ v wr c1
   have T:=pK v ms' (k+1) i wr hR.marks (by omega) (by omega) (by omega);generalize decide ((ms'.getD (k+1) Mk.dflt).at_<(ms'.getD i Mk.dflt).at_)=B at T
   push_cast at T⊢
   have hne:(i:Int)≠(k:Int)+1:=by omega
   have hneb:((i:Int)==(k:Int)+1)=false:=by simpa using hne
   replace T:=af T;replace hR:=af hR;go_wp2_with fail
   refine T.out.mono ?_;rintro e w2 ⟨rfl,hO2⟩;have hR2:=hR.out.nil hO2;have hO3:=hO.trans hO2.nil;cases B
   ·go_wp2_with fail
    go_end0
    exact⟨ms',rfl,hR2,hS,hO3⟩
   ·have c2:w2.cell? ⟨rb,1,none⟩=some v:=cell_of_row w2 rb 1 _ _ _ hR2.row
    have hm2:=fun n=>xg n _ v w2 c2
    have T2:=pO v ms' i (k+1) w2 hR2.marks (by omega) (by omega) (by omega)
    push_cast at T2
    replace T2:=af T2;have hsw:=bA.swp (n:=j+1) ms' i (k+1) (by omega) (by omega) (by omega);have A:Aside (bM w2 rb gap v ms'/\bA (j+1) ms (swp ms' i (k+1))/\(swp ms' i (k+1)).Perm ms'/\ai v.ownBlock.toList w w2):=⟨hR2,hS.trans hsw,hsw.1,hO3⟩;clear hR2 hsw hO3 hS hO hO2;go_wp2_with fail
    refine T2.out.mono ?_;rintro e w3 ⟨rfl,dY,hO4⟩;go_wp2_with fail
    go_roundg i
    case measure=>omega
    case rel=>exact⟨_,by omega,rfl,A.out.1.withMarks dY A.out.2.2.1 hO4,A.out.2.1,A.out.2.2.2.trans hO4⟩
def abj(w:World)(v v':Value):Prop:=v'.ownBlock=v.ownBlock\/ ∃g,v'.ownBlock=some g/\w.heap.size<=g
def Cq(w:World)(rb:Nat)(gap:Int)(v:Value)(ms:List Mk)(x:Mk)(e:Ending)(w':World):Prop:=
 ∃v' ms',e=.returned (.tuple #[])/\bM w' rb gap v' ms'/\ms'.Perm (ms++[x])/\abj w v v'/\ai (rb::v.ownBlock.toList) w w'
theorem JW(rb:Nat)(gap:Int)(v:Value)(ms:List Mk)(x:Mk)(w:World)(h:bM w rb gap v ms)(hl:ms.length<1000)
  (hx:w.heap[x.blk]?=some (.cells #[.string x.key,.int .i64 x.at_] 293 (0,0)))(hxb:0<=x.at_/\x.at_<=1073741824)(hx1:x.blk≠rb)(hx2:v.ownBlock≠some x.blk):
  Calls Tryz.prog 176 #[.iface 286 (.pointer (some ⟨rb,1,none⟩)),.iface 291 (.pointer (some ⟨x.blk,0,none⟩))] w (Cq w rb gap v ms x):=by
 have P:=af (Nz rb gap v ms x w h (by omega) hx hxb hx1 hx2);have hp:=fun n=>Vw n ⟨rb,1,none⟩ w
 clear h hx hxb hx1 hx2;go_enter Tryz.func176,Tryz.ntmps176
 go_wp2_with fail
 refine P.out.mono ?_;rintro e w1 ⟨v1,rfl,hR,hv,hO⟩;have c1:w1.cell? ⟨rb,1,none⟩=some v1:=cell_of_row w1 rb 1 _ _ _ hR.row;have hm1:=fun n=>UY n _ v1 w1 c1
 have U:=af (NC rb gap v1 (ms++[x]) ms.length w1 hR (by simp) (by simp;omega));obtain⟨g,cap,cur,rfl,hg,hn,hs,hc⟩:=hR.marks.shape (by simp);have hlen:(ms++[x]).length=ms.length+1:=by simp
 rw[hlen]at c1 hm1 U hR hv;change Hid _ at hlen hR hv;clear hg hn hs hc c1;go_wp2_with(first|(go_at_call 232;refine U.out.mono ?_;rintro e w2 ⟨yK,rfl,hR2,hS2,hO2⟩)|(go_at_call 372;go_in))
 go_end0
 refine⟨_,yK,rfl,hR2,hS2.1,hv.out,?_⟩;rcases hv.out with h1|⟨g',h1,h2⟩
 ·exact hO.trans' hO2 (by rw[<-h1];simp[Value.ownBlock])
 ·exact hO.trans' hO2 (by rw[h1];simp;omega)
def ND(w:World)(rb:Nat)(gap:Int)(v:Value)(n:Nat)(ms:List Mk)(e:Ending)(w':World):Prop:= ∃b,Co w rb gap v n ms (.bool b) e w'
theorem NE(rb:Nat)(gap:Int)(v:Value)(ms:List Mk)(i0 n:Nat)(w:World)(h:bM w rb gap v ms)(hi:i0<n)(hn:n<=ms.length)(hl:ms.length<=1000):
  Calls Tryz.prog 231 #[.iface 286 (.pointer (some ⟨rb,1,none⟩)),.int .i64 i0,.int .i64 n] w (ND w rb gap v n ms):=by
 change Hid _ at h;go_enter Tryz.func231,Tryz.ntmps231
 go_wp2_with fail
 go_loopg[7] (n-i0) (fun g s7 wr=> ∃(ms':List Mk) (i:Nat),i0<=i/\i<n/\g=n-i/\s7=.int .i64 i/\bM wr rb gap v ms'/\bA n ms ms'/\ai v.ownBlock.toList w wr)
 case atStart=>exact⟨ms,i0,Nat.le_refl _,hi,rfl,rfl,h.out,bA.refl _ _,ai.refl _ _⟩
 case round=>
  obtain⟨ms',i,hi0,hin,rfl,rfl,hR,hS,hO⟩:=hrel;clear h;have hlen:=hS.len;have c1:wr.cell? ⟨rb,1,none⟩=some v:=cell_of_row wr rb 1 _ _ _ hR.row;have hm1:=fun n=>Ff n _ v wr c1
  by_cases h1:n<=2*i+1
  ·replace hR:=af hR
   replace hS:=af hS;clear hlen hm1 c1;go_wp2_with fail
   go_ret
   exact⟨_,ms',rfl,hR.out,hS.out,hO⟩
  ·by_cases h2:n<=2*i+2
   ·
    have T:=pK v ms' (2*i+1) i wr hR.marks (by omega) (by omega) (by omega);generalize decide ((ms'.getD (2*i+1) Mk.dflt).at_<(ms'.getD i Mk.dflt).at_)=B at T
    push_cast at T
    replace T:=af T;replace hR:=af hR;replace hS:=af hS;go_wp2_with fail
    refine T.out.mono ?_;rintro e w2 ⟨rfl,hO2⟩;have hR2:=hR.out.nil hO2;have hO3:=hO.trans hO2.nil;cases B
    ·replace hR2:=af hR2
     go_wp2_with fail
     go_ret
     exact⟨_,ms',rfl,hR2.out,hS.out,hO3⟩
    ·have c2:w2.cell? ⟨rb,1,none⟩=some v:=cell_of_row w2 rb 1 _ _ _ hR2.row
     have hm2:=fun n=>xg n _ v w2 c2
     have T2:=pO v ms' i (2*i+1) w2 hR2.marks (by omega) (by omega) (by omega)
     push_cast at T2
     replace T2:=af T2;have hsw:=bA.swp (n:=n) ms' i (2*i+1) (by omega) (by omega) (by omega);have A:Aside (bM w2 rb gap v ms'/\bA n ms (swp ms' i (2*i+1))/\(swp ms' i (2*i+1)).Perm ms'/\ai v.ownBlock.toList w w2):=⟨hR2,hS.out.trans hsw,hsw.1,hO3⟩;clear hR2 hsw hO3 hO hO2;go_wp2_with fail
     refine T2.out.mono ?_;rintro e w3 ⟨rfl,dY,hO4⟩;go_wp2_with fail
     go_roundg(n-(2*i+1))
     case measure=>omega
     case rel=>exact⟨_,2*i+1,by omega,by omega,rfl,by go_num,A.out.1.withMarks dY A.out.2.2.1 hO4,A.out.2.1,A.out.2.2.2.trans hO4⟩
   ·
    have T:=pK v ms' (2*i+1+1) (2*i+1) wr hR.marks (by omega) (by omega) (by omega);generalize decide ((ms'.getD (2*i+1+1) Mk.dflt).at_<(ms'.getD (2*i+1) Mk.dflt).at_)=B at T
    push_cast at T
    replace T:=af T;replace hR:=af hR;replace hS:=af hS;go_wp2_with fail
    refine T.out.mono ?_;rintro e w2 ⟨rfl,hO2⟩;have hR2:=hR.out.nil hO2;have hO3:=hO.trans hO2.nil;have c2:w2.cell? ⟨rb,1,none⟩=some v:=cell_of_row w2 rb 1 _ _ _ hR2.row;have hm2:=fun n=>Ff n _ v w2 c2
    cases B
    ·have T2:=pK v ms' (2*i+1) i w2 hR2.marks (by omega) (by omega) (by omega)
     generalize decide ((ms'.getD (2*i+1) Mk.dflt).at_<(ms'.getD i Mk.dflt).at_)=B2 at T2
     push_cast at T2
     replace T2:=af T2;replace hR2:=af hR2;go_wp2_with fail
     refine T2.out.mono ?_;rintro e w3 ⟨rfl,hO4⟩;have eP:=hR2.out.nil hO4;have aB:=hO3.trans hO4.nil;cases B2
     ·replace eP:=af eP
      go_wp2_with fail
      go_ret
      exact⟨_,ms',rfl,eP.out,hS.out,aB⟩
     ·have c3:w3.cell? ⟨rb,1,none⟩=some v:=cell_of_row w3 rb 1 _ _ _ eP.row
      have hm3:=fun n=>xg n _ v w3 c3
      have T3:=pO v ms' i (2*i+1) w3 eP.marks (by omega) (by omega) (by omega)
      push_cast at T3
      replace T3:=af T3;have hsw:=bA.swp (n:=n) ms' i (2*i+1) (by omega) (by omega) (by omega);have A:Aside (bM w3 rb gap v ms'/\bA n ms (swp ms' i (2*i+1))/\(swp ms' i (2*i+1)).Perm ms'/\ai v.ownBlock.toList w w3):=⟨eP,hS.out.trans hsw,hsw.1,aB⟩;clear eP hsw aB hO hO2 hO3 hO4;go_wp2_with fail
      refine T3.out.mono ?_;rintro e w4 ⟨rfl,dY,bI⟩;go_wp2_with fail
      go_roundg(n-(2*i+1))
      case measure=>omega
      case rel=>exact⟨_,2*i+1,by omega,by omega,rfl,by go_num,A.out.1.withMarks dY A.out.2.2.1 bI,A.out.2.1,A.out.2.2.2.trans bI⟩
    ·have T2:=pK v ms' (2*i+1+1) i w2 hR2.marks (by omega) (by omega) (by omega)
     generalize decide ((ms'.getD (2*i+1+1) Mk.dflt).at_<(ms'.getD i Mk.dflt).at_)=B2 at T2
     push_cast at T2
     replace T2:=af T2;replace hR2:=af hR2;go_wp2_with fail
     refine T2.out.mono ?_;rintro e w3 ⟨rfl,hO4⟩;have eP:=hR2.out.nil hO4;have aB:=hO3.trans hO4.nil;cases B2
     ·replace eP:=af eP
      go_wp2_with fail
      go_ret
      exact⟨_,ms',rfl,eP.out,hS.out,aB⟩
     ·have c3:w3.cell? ⟨rb,1,none⟩=some v:=cell_of_row w3 rb 1 _ _ _ eP.row
      have hm3:=fun n=>xg n _ v w3 c3
      have T3:=pO v ms' i (2*i+1+1) w3 eP.marks (by omega) (by omega) (by omega)
      push_cast at T3
      replace T3:=af T3;have hsw:=bA.swp (n:=n) ms' i (2*i+1+1) (by omega) (by omega) (by omega);have A:Aside (bM w3 rb gap v ms'/\bA n ms (swp ms' i (2*i+1+1))/\(swp ms' i (2*i+1+1)).Perm ms'/\ai v.ownBlock.toList w w3):=⟨eP,hS.out.trans hsw,hsw.1,aB⟩;clear eP hsw aB hO hO2 hO3 hO4;go_wp2_with fail
      refine T3.out.mono ?_;rintro e w4 ⟨rfl,dY,bI⟩;go_wp2_with fail
      go_roundg(n-(2*i+1+1))
      case measure=>omega
      case rel=>exact⟨_,2*i+1+1,by omega,by omega,rfl,by go_num,A.out.1.withMarks dY A.out.2.2.1 bI,A.out.2.1,A.out.2.2.2.trans bI⟩
def Rv(w:World)(rb:Nat)(gap:Int)(v:Value)(ms:List Mk)(i:Nat)(e:Ending)(w':World):Prop:=
 ∃v' ms' x,e=.returned x/\bM w' rb gap v' ms'/\ms'.Perm (ms.eraseIdx i)/\v'.ownBlock=v.ownBlock/\ai (rb::v.ownBlock.toList) w w'
end Go.Proofs.YtedcakchekaemaaGreatDoor
namespace Go.Proofs.YtedcakchekaemaaGreatDoor
open Go.RowKit
variable [Kd]
def bP.pl(m:bP):PM:=⟨m.name,m.has,m.al,m.time,m.ty,m.hist,m.trans,m.null,⟨m.vk,m.vn,m.vs⟩⟩
theorem zZ{m n:bP}(h:m.pl=n.pl):m.name=n.name/\m.has=n.has/\m.al=n.al/\m.time=n.time/\m.ty=n.ty/\m.hist=n.hist/\m.trans=n.trans/\m.null=n.null/\m.vk=n.vk/\m.vn=n.vn/\m.vs=n.vs:=by
 unfold bP.pl at h;simp only[PM.mk.injEq,PV.mk.injEq]at h;exact h
theorem VT{m n:bP}(h:m.pl=n.pl):J5 m=J5 n:=by
 obtain⟨h1,h2,h3,_,h4,_,_,h5,h6,h7,h8⟩:=zZ h;unfold J5;rw[h1,h2,h3,h4,h5,h6,h7,h8]
theorem LA(F:Int->ByteArray×Bool){m n:bP}(h:m.pl=n.pl):oF F m=oF F n:=by
 obtain⟨h1,h2,h3,_⟩:=zZ h;unfold oF;rw[h1,h2,h3]
theorem LB(x:bD){m n:bP}(h:m.pl=n.pl):mF x m=mF x n:=by
 obtain⟨_,_,_,_,_,_,_,h5,h6,h7,h8⟩:=zZ h;unfold mF;rw[h5,h6,h7,h8]
theorem Aa: ∀(M N:List bP) (out:List bD),M.map bP.pl=N.map bP.pl->jq M out=jq N out
 | [],[],_,_=>rfl
 | [],n::N,_,h=>by simp at h
 |m::M,[],_,h=>by simp at h
 |m::M,n::N,out,h=>by
  simp only[List.map_cons,List.cons.injEq]at h;obtain⟨h1,h2⟩:=h;unfold jq;rw[(zZ h1).1,VT h1,Aa M N _ h2]
theorem PU{M N:List bP}(h:M.map bP.pl=N.map bP.pl):dx M=dx N:=by
 have hl:M.length=N.length:=by simpa using congrArg List.length h
 unfold dx;rw[hl,Aa M N [] h]
theorem Eb(F:Int->ByteArray×Bool): ∀(M N:List bP) (out:List bD),M.map bP.pl=N.map bP.pl->fT F M out=fT F N out
 | [],[],_,_=>rfl
 | [],n::N,_,h=>by simp at h
 |m::M,[],_,h=>by simp at h
 |m::M,n::N,out,h=>by
  simp only[List.map_cons,List.cons.injEq]at h;obtain⟨h1,h2⟩:=h;unfold fT;rw[LA F h1];split
  ·split
   ·rw[LB _ h1,Eb F M N _ h2]
   ·rfl
  ·rfl
theorem U6: ∀(M N:List bP) (nm:ByteArray),M.map bP.pl=N.map bP.pl->(eZ M nm).map bP.pl=(eZ N nm).map bP.pl
 | [],[],_,_=>rfl
 | [],n::N,_,h=>by simp at h
 |m::M,[],_,h=>by simp at h
 |m::M,n::N,nm,h=>by
  simp only[List.map_cons,List.cons.injEq]at h;obtain⟨h1,h2⟩:=h;have ih:=U6 M N nm h2;unfold eZ at ih⊢;simp only[List.find?_cons,(zZ h1).1];split
  ·simp[h1]
  ·exact ih
structure Ab (p q:gT):Prop where
 h:p.h=q.h
 s:p.s=q.s
 M:p.M.map bP.pl=q.M.map bP.pl
theorem Ab.bd{p q:gT}(h:Ab p q):p.bd=q.bd:=by
 have e:=U6 p.M q.M pR h.M;unfold gT.bd;cases h1:eZ p.M pR with
 |none=>
  rw[h1]at e;cases h2:eZ q.M pR with
  |none=>rfl
  |some n=>rw[h2]at e;simp at e
 |some m=>
  rw[h1]at e;cases h2:eZ q.M pR with
  |none=>rw[h2]at e;simp at e
  |some n=>
   rw[h2]at e;simp only[Option.map_some,Option.some.injEq]at e;obtain⟨_,_,_,_,_,_,_,k1,k2,k3,_⟩:=zZ e;simp only[k1,k2,k3]
theorem Ab.seq{p q:gT}(h:Ab p q):p.seq=q.seq:=by unfold gT.seq;rw[h.h,h.s]
theorem PW{p q:gT}(h:Ab p q)(s:EN)(k:Int)(dn:ByteArray):vM s k dn p=vM s k dn q:=by
 have h1:=h.bd;have h2:=h.seq;have h3:=PU h.M;have h4:=fun F out=>Eb F p.M q.M out h.M
 unfold vM pW qp vG lT lU qo eY iC;simp only[h1,h2,h3,h4]
end Go.Proofs.YtedcakchekaemaaGreatDoor
namespace Go.Proofs.YtedcakchekaemaaGreatDoor
open Go.RowKit
theorem rD.sl{w:World}{v:Value}{ms:List Mk}(h:rD w v ms): ∃a cap,v=.slice a ms.length cap:=by
 obtain⟨_,⟨h1,h2⟩|⟨g,cap,cur,hv,_⟩⟩:=h.own
 ·exact⟨none,0,by rw[h1,h2]⟩
 ·exact⟨_,cap,hv⟩
theorem yP{α:Type}(l:List α)(i:Nat)(h:i<l.length):(l[i]::l.eraseIdx i).Perm l:=by
 have h1:l=l.take i++l[i]::l.drop (i+1):=by
  rw[List.getElem_cons_drop,List.take_append_drop]
 rw[List.eraseIdx_eq_take_drop_succ]
 conv=>rhs;rw[h1]
 exact List.perm_middle.symm
theorem yQ{ms ms':List Mk}{i n:Nat}(hn:ms.length=n+1)(hi:i<n)(h:bA n (swp ms i n) ms'):ms'.dropLast.Perm (ms.eraseIdx i):=by
 have hl:ms'.length=n+1:=by rw[h.len,oz,hn]
 have hne:ms'≠[]:=by intro e;rw[e]at hl;simp at hl
 have hx:ms'[n]?=ms[i]?:=by
  rw[h.2 n (Nat.le_refl _)];unfold swp;rw[List.getElem?_set_self (by simp;omega)];simp[List.getD,List.getElem?_eq_getElem (show i<ms.length by omega)]
 have hlast:ms'.getLast hne=ms[i]:=by
  rw[List.getLast_eq_getElem];have h1:ms'[n]?=some ms'[ms'.length-1]:=by
   have:ms'.length-1=n:=by omega
   simp only[this];exact List.getElem?_eq_getElem (by omega)
  rw[h1,List.getElem?_eq_getElem (by omega)]at hx;exact Option.some.inj hx
 have hp:ms'.Perm ms:=h.1.trans (xh ms i n (by omega) (by omega));have h1:(ms'.dropLast++[ms[i]]).Perm ms':=by rw[<-hlast,List.dropLast_concat_getLast hne]
 have h2:(ms[i]::ms.eraseIdx i).Perm ms:=yP ms i (by omega);have h3:(ms[i]::ms'.dropLast).Perm (ms[i]::ms.eraseIdx i):=((List.perm_append_singleton _ _).symm.trans h1).trans (hp.trans h2.symm);exact List.Perm.cons_inv h3
theorem Fg(rb:Nat)(gap:Int)(v:Value)(ms:List Mk)(i:Nat)(w:World)(h:bM w rb gap v ms)(hi:i<ms.length)(hl:ms.length<=1000):
  Calls Tryz.prog 175 #[.iface 286 (.pointer (some ⟨rb,1,none⟩)),.int .i64 i] w (Rv w rb gap v ms i):=by
 have c1:w.cell? ⟨rb,1,none⟩=some v:=cell_of_row w rb 1 _ _ _ h.row;have hm1:=fun n=>UY n _ v w c1
 obtain⟨n,hn⟩: ∃n,ms.length=n+1:=⟨ms.length-1,by omega⟩;obtain⟨a,cap,rfl⟩:=h.marks.sl;by_cases hin:i=n
 ·subst hin
  have hp:=fun k=>NA k ⟨rb,1,none⟩ w
  have P:=af (Iu rb gap _ ms w h (by omega) hl);have he:ms.dropLast=ms.eraseIdx i:=by
   rw[List.dropLast_eq_take,List.eraseIdx_eq_take_drop_succ,hn,List.drop_eq_nil_of_le (by omega)];simp
  change Hid _ at he;rw[hn]at P hm1 c1 hl hi⊢;clear h hn;go_enter Tryz.func175,Tryz.ntmps175
  go_wp2_with(first|(go_at_call 376;refine P.out.mono ?_;rintro e w2 ⟨v2,x,rfl,hR2,hv2,hO2⟩)|(go_at_call 372;go_in))
  go_ret
  exact⟨_,_,_,rfl,he.out▸hR2,List.Perm.refl _,hv2,hO2.mono (by simp)⟩
 ·have hil:i<n:=by omega
  have S:=pO _ ms i n w h.marks hi (by omega) hin;have hsp:=xh ms i n hi (by omega);have hsl:=oz ms i n;rw[hn]at hsl;have hms:=fun k=>xg k _ _ w c1
  have hnb:((n:Int)!=i)=true:=by simp;omega
  have U: ∀w2,bM w2 rb gap (.slice a ms.length cap) (swp ms i n)->_:=fun w2 h2=>NE rb gap _ (swp ms i n) i n w2 h2 hil (by omega) (by omega)
  have V: ∀w2 yK,bM w2 rb gap (.slice a ms.length cap) yK->yK.length=n+1->_:=fun w2 yK h2 hl2=>NC rb gap _ yK i w2 h2 (by omega) (by omega)
  have P: ∀w2 yK,bM w2 rb gap (.slice a ms.length cap) yK->yK.length=n+1->_:=fun w2 yK h2 hl2=>Iu rb gap _ yK w2 h2 (by omega) (by omega)
  have hfin:=fun yK h2=>yQ (ms:=ms) (ms':=yK) hn hil h2
  rw[hn]at S U V P h hm1 hms c1 hl hi⊢;change Hid _ at U V h hn hfin;replace S:=af S;replace P:=af P;go_enter Tryz.func175,Tryz.ntmps175
  go_wp2_with(first|(go_at_call 372;go_in))
  refine S.out.mono ?_;rintro e w2 ⟨rfl,hM2,hO2⟩;have hR2:=h.out.withMarks hM2 hsp hO2;have D:=af (U.out w2 hR2);clear S hM2 hm1 hms;go_wp2_with fail
  refine D.out.mono ?_;rintro e w3 ⟨q,QA,rfl,eP,rO,hO3⟩;have hl3:QA.length=n+1:=by rw[rO.len,hsl]
  cases q
  ·have U2:=af (V.out w3 QA eP hl3)
   change Hid _ at eP hl3;go_wp2_with fail
   refine U2.out.mono ?_;rintro e w4 ⟨ms4,rfl,oN,HZ,hO4⟩;have hl4:ms4.length=n+1:=by rw[HZ.len,hl3.out]
   have P4:=af (P.out w4 ms4 oN hl4);have hp:=fun k=>NA k ⟨rb,1,none⟩ w4
   change Hid _ at oN hl4;go_wp2_with fail
   refine P4.out.mono ?_;rintro e w5 ⟨v5,x5,rfl,om,hv5,aB⟩;go_wp2_with fail
   go_ret
   exact⟨_,_,_,rfl,om,hfin.out _ (rO.trans (HZ.mono (by omega))),hv5,(((hO2.trans hO3).trans hO4).mono (fun x hx=>List.mem_cons_of_mem _ hx)).trans (aB.mono (by simp))⟩
  ·have P4:=af (P.out w3 QA eP hl3)
   have hp:=fun k=>NA k ⟨rb,1,none⟩ w3
   change Hid _ at eP hl3;go_wp2_with fail
   refine P4.out.mono ?_;rintro e w5 ⟨v5,x5,rfl,om,hv5,aB⟩;go_wp2_with fail
   go_ret
   exact⟨_,_,_,rfl,om,hfin.out _ rO,hv5,((hO2.trans hO3).mono (fun x hx=>List.mem_cons_of_mem _ hx)).trans (aB.mono (by simp))⟩
end Go.Proofs.YtedcakchekaemaaGreatDoor
