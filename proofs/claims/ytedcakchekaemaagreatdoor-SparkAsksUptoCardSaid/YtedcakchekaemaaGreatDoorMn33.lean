import Derived.Test.YtedcakchekaemaaGreatDoorMn30
import Derived.Test.YtedcakchekaemaaGreatDoorMn31
set_option maxRecDepth 100000
set_option maxHeartbeats 16000000
set_option linter.all false
namespace Go.Proofs.YtedcakchekaemaaGreatDoor
open Go.RowKit
abbrev rf:=List (ByteArray×Bool)
def I9:List UInt8:=[79,78,76,73,78,69]
def qm:List UInt8:=[79,70,70,76,73,78,69]
def kM(st:rf)(n:ByteArray):Option Nat:=st.findIdx? (fun p=>n==p.1)
def KT(st:rf)(n:ByteArray)(on:Bool):Int×rf:=
 match kM st n with
 |some i=>(1,st.set i (n,on))
 |none=>if 4<=st.length then(8,st)else(1,st++[(n,on)])
def jS(st:rf)(n t:ByteArray):Int×rf:=
 if n.toList=[]then(7,st)
 else if t.toList=I9 then KT st n true
 else if t.toList=qm then KT st n false
 else(3,st)
def sF(st:rf):List (ByteArray×Value):=st.zipIdx.map fun p=>(p.1.1,Value.int .i64 p.2)
def Ja(st:rf)(i:Nat):ByteArray×Bool:=st.getD i (ByteArray.empty,false)
theorem Dz(st:rf):(sF st).length=st.length:=by simp[sF]
theorem DC(st:rf)(i:Nat):(sF st)[i]?=(st[i]?).map fun p=>(p.1,Value.int .i64 i):=by
 simp[sF,List.getElem?_zipIdx,Function.comp_def]
theorem uX(st:rf)(n:ByteArray):(sF st).findIdx? (fun p=>n==p.1)=kM st n:=by
 have h: ∀(l:rf) (k:Nat),(l.zipIdx k).findIdx? ((fun p:ByteArray×Value=>n==p.1)∘fun p=>(p.1.1,Value.int .i64 p.2))=l.findIdx? (fun p=>n==p.1):=by
  intro l;induction l with
  |nil=>intro k;rfl
  |cons p r ih=>intro k;simp only[List.zipIdx_cons,List.findIdx?_cons,ih,Function.comp]
 unfold sF kM;rw[List.findIdx?_map,h]
theorem tV{st:rf}{n:ByteArray}{i:Nat}(h:kM st n=some i):i<st.length:=(List.findIdx?_eq_some_iff_getElem.1 h).1
theorem Gn{st:rf}{n:ByteArray}{i:Nat}(h:kM st n=some i):(Ja st i).1=n:=by
 obtain⟨hl,hk,_⟩:=List.findIdx?_eq_some_iff_getElem.1 h;simp only[Ja,List.getD,List.getElem?_eq_getElem hl,Option.getD_some];exact(LawfulBEq.eq_of_beq hk).symm
theorem yV{st:rf}{n:ByteArray}{i:Nat}(h:kM st n=some i):aS (sF st) n=some (.int .i64 i):=by
 rw[jF,uX,h];simp[DC,List.getElem?_eq_getElem (tV h)]
theorem rJ{st:rf}{n:ByteArray}(h:kM st n=none):aS (sF st) n=none:=by
 rw[jF,uX,h];rfl
theorem Pd{st:rf}{n:ByteArray}{i:Nat}(h:kM st n=some i)(on:Bool):sF (st.set i (n,on))=sF st:=by
 have hn:=Gn h;have hl:=tV h;simp only[Ja,List.getD,List.getElem?_eq_getElem hl,Option.getD_some]at hn;apply List.ext_getElem?;intro j;simp only[DC,List.getElem?_set];by_cases hj:i=j
 ·subst hj;simp[hl,hn]
 ·simp[hj]
theorem KU{st:rf}{n:ByteArray}(h:kM st n=none)(on:Bool):sF (st++[(n,on)])=bZ (sF st) n (.int .i64 st.length):=by
 rw[uD _ (by rw[uX];exact h)];simp[sF,List.zipIdx_append]
structure jR (w:World) (b m:Nat) (st:rf):Prop where
 ne:b≠m
 len:st.length<=4
 row: ∃c,w.heap[b]?=some (.cells c 147 (0,0))/\c.size=9/\c[8]?=some (.map (some m))/\ ∀i,i<4->c[2*i]?=some (.string (Ja st i).1)/\c[2*i+1]?=some (.bool (Ja st i).2)
 map:cu Value.string w m (sF st)
theorem jR.own{S:List Nat}{w w':World}{b m:Nat}{st:rf}(h:jR w b m st)(ho:ai S w w')(hb:b∉S)(hm:m∉S):jR w' b m st:=by
 obtain⟨h1,h2,⟨c,h3,h4⟩,h5⟩:=h;exact⟨h1,h2,⟨c,ho.heap h3 hb,h4⟩,h5.own ho hm⟩
theorem jR.lt{w:World}{b m:Nat}{st:rf}(h:jR w b m st):b<w.heap.size/\m<w.heap.size:=by
 obtain⟨h1,h2,⟨c,h3,h4⟩,h5⟩:=h;exact⟨aj h3,h5.lt⟩
theorem jR.drew{w:World}{b m:Nat}{st:rf}(h:jR w b m st):jR w.drew b m st:=h.own (S:=[]) (ai.refl _ _).drew (by simp) (by simp)
theorem jR.put{w:World}{b m:Nat}{st:rf}(h:jR w b m st){i:Nat}{n:ByteArray}{on:Bool}(hf:kM st n=some i):
  jR ((w.setCell ⟨b,i*2,none⟩ (.string n)).setCell ⟨b,i*2+1,none⟩ (.bool on)) b m (st.set i (n,on)):=by
 obtain⟨h1,h2,⟨c,h3,h4,h5,h6⟩,h7⟩:=h;have hi:=tV hf;refine⟨h1,by simpa using h2,⟨_,heap_setCell_same _ _ _ _ _ _ (heap_setCell_same _ _ _ _ _ _ h3),by simp[h4],?_,?_⟩,?_⟩
 ·simp only[Array.getElem?_setIfInBounds];rw[if_neg (by omega),if_neg (by omega)];exact h5
 ·intro j hj
  simp only[Array.getElem?_setIfInBounds,Array.size_setIfInBounds,h4];by_cases hij:i=j
  ·subst hij
   rw[if_neg (by omega),if_pos (by omega),if_pos (by omega),if_pos (by omega),if_pos (by omega)];simp[Ja,List.getD,hi]
  ·rw[if_neg (by omega),if_neg (by omega),if_neg (by omega),if_neg (by omega)]
   have:=h6 j hj;simpa[Ja,List.getD,List.getElem?_set,hij]using this
 ·rw[Pd hf]
  exact h7.of_heap (by rw[heap_setCell_other _ _ _ _ (by simpa using Ne.symm h1),heap_setCell_other _ _ _ _ (by simpa using Ne.symm h1)])
theorem jR.push{w w1:World}{b m:Nat}{st:rf}(h:jR w b m st){n:ByteArray}{on:Bool}(hf:kM st n=none)(hl:st.length<4)(ho:ai [m] w w1)
  (hm:cu Value.string w1 m (bZ (sF st) n (.int .i64 st.length))):
  jR ((w1.setCell ⟨b,st.length*2,none⟩ (.string n)).setCell ⟨b,st.length*2+1,none⟩ (.bool on)) b m (st++[(n,on)]):=by
 obtain⟨h1,h2,⟨c,h3,h4,h5,h6⟩,h7⟩:=h;refine⟨h1,by simp;omega,⟨_,heap_setCell_same _ _ _ _ _ _ (heap_setCell_same _ _ _ _ _ _ (ho.heap h3 (by simpa using h1))),by simp[h4],?_,?_⟩,?_⟩
 ·simp only[Array.getElem?_setIfInBounds];rw[if_neg (by omega),if_neg (by omega)];exact h5
 ·intro j hj
  simp only[Array.getElem?_setIfInBounds,Array.size_setIfInBounds,h4];by_cases hij:st.length=j
  ·subst hij
   rw[if_neg (by omega),if_pos (by omega),if_pos (by omega),if_pos (by omega),if_pos (by omega)];simp[Ja,List.getD]
  ·rw[if_neg (by omega),if_neg (by omega),if_neg (by omega),if_neg (by omega)]
   have:=h6 j hj;by_cases hj2:j<st.length
   ·simpa[Ja,List.getD,List.getElem?_append_left hj2]using this
   ·simpa[Ja,List.getD,List.getElem?_eq_none (show st.length<=j by omega),List.getElem?_eq_none (show(st++[(n,on)]).length<=j by simp;omega)]using this
 ·rw[KU hf]
  exact hm.of_heap (by rw[heap_setCell_other _ _ _ _ (by simpa using Ne.symm h1),heap_setCell_other _ _ _ _ (by simpa using Ne.symm h1)])
theorem iR(b:Nat)(m:Nat)(w:World)(hm:w.cell? ⟨b,8,none⟩=some (.map (some m))):
  Calls Tryz.prog 143 #[.pointer (some ⟨b,0,none⟩)] w fun e w'=>e=.returned (.bool false)/\w=w':=by
 have hq:=fun w r=>run_eql_map_nil w 144 9 3 r Tryz.underlying144
 go_enter Tryz.func143,Tryz.ntmps143
 go_wp2
 go_ret
 exact⟨rfl,rfl⟩
def kN(w:World)(b m:Nat)(r:Int×rf)(e:Ending)(w':World):Prop:=
 e=.returned (.int .i64 r.1)/\jR w' b m r.2/\ai [b,m] w w'
theorem DF(b m:Nat)(st:rf)(w:World)(n t:ByteArray)(h:jR w b m st)(hx:n.toList=[]\/(n.toList≠[]/\t.toList≠I9/\t.toList≠qm)):
  Calls Tryz.prog 92 #[.pointer (some ⟨b,0,none⟩),.string n,.string t] w (kN w b m (jS st n t)):=by
 obtain⟨c,h3,h4,h5,h6⟩:=h.row;have hm:w.cell? ⟨b,8,none⟩=some (.map (some m)):=(cell_of_row w b 8 c _ _ h3).trans h5;rcases hx with hx|⟨hn,hu,hd⟩
 ·have hr:jS st n t=(7,st):=by simp[jS,hx]
  have hr':=af hr;clear hr;have hP:=af h;clear h h3 h4 h5 h6;have hb:n.toList.isEmpty=true:=by simp[hx]
  clear hx;go_enter Tryz.func92,Tryz.ntmps92
  go_wp2_with((go_at_call 143;refine(iR _ _ _ hm).mono ?_;rintro e w' ⟨rfl,rfl⟩))
  go_ret
  rw[hr'.out];exact⟨rfl,hP.out,ai.refl _ _⟩
 ·have hr:jS st n t=(3,st):=by simp[jS,hn,hu,hd]
  have hr':=af hr;clear hr;have hP:=af h;clear h h3 h4 h5 h6;have hb:n.toList.isEmpty=false:=by simpa using hn
  have hu':(t.toList==[79,78,76,73,78,69])=false:=by simpa[I9]using hu
  have hd':(t.toList==[79,70,70,76,73,78,69])=false:=by simpa[qm]using hd
  clear hn hu hd;go_enter Tryz.func92,Tryz.ntmps92
  go_wp2_with((go_at_call 143;refine(iR _ _ _ hm).mono ?_;rintro e w' ⟨rfl,rfl⟩))
  go_ret
  rw[hr'.out];exact⟨rfl,hP.out,ai.refl _ _⟩
theorem DI(w:World):(zeroValue 3).run Tryz.prog w=.ok (.int .i64 0) w:=by kernel_rfl
theorem Pe(b m:Nat)(st:rf)(w:World)(n t:ByteArray)(h:jR w b m st)(hn:n.toList≠[])(on:Bool)(hu:(t.toList==I9)=on)(hd:on=false->(t.toList==qm)=true)
  (i:Nat)(hf:kM st n=some i):
  Calls Tryz.prog 92 #[.pointer (some ⟨b,0,none⟩),.string n,.string t] w (kN w b m (1,st.set i (n,on))):=by
 obtain⟨c,h3,h4,h5,h6⟩:=h.row;have hm:w.cell? ⟨b,8,none⟩=some (.map (some m)):=(cell_of_row w b 8 c _ _ h3).trans h5;have hi:=tV hf;have hi4:i<4:=Nat.lt_of_lt_of_le hi h.len;have hc0:w.cell? ⟨b,i*2,none⟩=some (.string (Ja st i).1):=(cell_of_row w b _ c _ _ h3).trans (by rw[Nat.mul_comm];exact(h6 i hi4).1);have hc1:w.cell? ⟨b,i*2+1,none⟩=some (.bool (Ja st i).2):=(cell_of_row w b _ c _ _ h3).trans (by rw[Nat.mul_comm];exact(h6 i hi4).2);have hf0:w.frozen? ⟨b,i*2,none⟩=false:=frozen_of_row w b _ c _ h3;have hf1:w.frozen? ⟨b,i*2+1,none⟩=false:=frozen_of_row w b _ c _ h3;have hlk:=h.map.lookup_yes (lD Tryz.underlying9) Tryz.underlying144 n (yV hf) true;simp only[if_true]at hlk;have hP:=af (And.intro h hf);clear h h3 h4 h5 h6 hf hi;have hb:n.toList.isEmpty=false:=by simpa using hn
 clear hn;cases on
 ·have hu':(t.toList==[79,78,76,73,78,69])=false:=by simpa[I9]using hu
  have hd':(t.toList==[79,70,70,76,73,78,69])=true:=by simpa[qm]using hd rfl
  clear hu hd;go_enter Tryz.func92,Tryz.ntmps92
  go_wp2_with((go_at_call 143;refine(iR _ _ _ hm).mono ?_;rintro e w' ⟨rfl,rfl⟩))
  go_ret
  exact⟨rfl,hP.out.1.put hP.out.2,((ai.refl _ _).setCell (by simp) _).setCell (by simp) _⟩
 ·have hu':(t.toList==[79,78,76,73,78,69])=true:=by simpa[I9]using hu
  clear hu hd;go_enter Tryz.func92,Tryz.ntmps92
  go_wp2_with((go_at_call 143;refine(iR _ _ _ hm).mono ?_;rintro e w' ⟨rfl,rfl⟩))
  go_ret
  exact⟨rfl,hP.out.1.put hP.out.2,((ai.refl _ _).setCell (by simp) _).setCell (by simp) _⟩
theorem KV(b m:Nat)(st:rf)(w:World)(n t:ByteArray)(h:jR w b m st)(hn:n.toList≠[])(on:Bool)(hu:(t.toList==I9)=on)(hd:on=false->(t.toList==qm)=true)
  (hf:kM st n=none)(hl:st.length<4):
  Calls Tryz.prog 92 #[.pointer (some ⟨b,0,none⟩),.string n,.string t] w (kN w b m (1,st++[(n,on)])):=by
 obtain⟨c,h3,h4,h5,h6⟩:=h.row;have hne:=h.ne;have hm:w.cell? ⟨b,8,none⟩=some (.map (some m)):=(cell_of_row w b 8 c _ _ h3).trans h5;have hlk:=h.map.lookup_no (lD Tryz.underlying9) Tryz.underlying144 n (DI w) (rJ hf) true;simp only[if_true]at hlk;have hlen:=h.map.len_run Tryz.underlying144;rw[Dz]at hlen;obtain⟨w1,hup,hms,ho,hs1⟩:=h.map.update (lD Tryz.underlying9) Tryz.underlying144 n (.int .i64 st.length);have hb1:=ho.heap h3 (by simpa using hne);have hc0:w1.cell? ⟨b,st.length*2,none⟩=some (.string (Ja st st.length).1):=(cell_of_row w1 b _ c _ _ hb1).trans (by rw[Nat.mul_comm];exact(h6 _ hl).1);have hc1:w1.cell? ⟨b,st.length*2+1,none⟩=some (.bool (Ja st st.length).2):=(cell_of_row w1 b _ c _ _ hb1).trans (by rw[Nat.mul_comm];exact(h6 _ hl).2);have hf0:w1.frozen? ⟨b,st.length*2,none⟩=false:=frozen_of_row w1 b _ c _ hb1;have hf1:w1.frozen? ⟨b,st.length*2+1,none⟩=false:=frozen_of_row w1 b _ c _ hb1;have hP:=af (And.intro (h.push hf hl ho hms (on:=on)) (show ai [b,m] w w1 from ho.mono (by simp)));clear h h3 h4 h5 h6 hf hms ho hs1 hb1 hne;have hb:n.toList.isEmpty=false:=by simpa using hn
 clear hn;cases on
 ·have hu':(t.toList==[79,78,76,73,78,69])=false:=by simpa[I9]using hu
  have hd':(t.toList==[79,70,70,76,73,78,69])=true:=by simpa[qm]using hd rfl
  clear hu hd;go_enter Tryz.func92,Tryz.ntmps92
  go_wp2_with((go_at_call 143;refine(iR _ _ _ hm).mono ?_;rintro e w' ⟨rfl,rfl⟩))
  go_ret
  exact⟨rfl,hP.out.1,(hP.out.2.setCell (by simp) _).setCell (by simp) _⟩
 ·have hu':(t.toList==[79,78,76,73,78,69])=true:=by simpa[I9]using hu
  clear hu hd;go_enter Tryz.func92,Tryz.ntmps92
  go_wp2_with((go_at_call 143;refine(iR _ _ _ hm).mono ?_;rintro e w' ⟨rfl,rfl⟩))
  go_ret
  exact⟨rfl,hP.out.1,(hP.out.2.setCell (by simp) _).setCell (by simp) _⟩
theorem KW(b m:Nat)(st:rf)(w:World)(n t:ByteArray)(h:jR w b m st)(hn:n.toList≠[])(on:Bool)(hu:(t.toList==I9)=on)(hd:on=false->(t.toList==qm)=true)
  (hf:kM st n=none)(hl:4<=st.length):
  Calls Tryz.prog 92 #[.pointer (some ⟨b,0,none⟩),.string n,.string t] w (kN w b m (8,st)):=by
 obtain⟨c,h3,h4,h5,h6⟩:=h.row;have hm:w.cell? ⟨b,8,none⟩=some (.map (some m)):=(cell_of_row w b 8 c _ _ h3).trans h5;have hlk:=h.map.lookup_no (lD Tryz.underlying9) Tryz.underlying144 n (DI w) (rJ hf) true;simp only[if_true]at hlk;have hlen:=h.map.len_run Tryz.underlying144;rw[Dz]at hlen;have hP:=af h;clear h h3 h4 h5 h6 hf;have hb:n.toList.isEmpty=false:=by simpa using hn
 clear hn;cases on
 ·have hu':(t.toList==[79,78,76,73,78,69])=false:=by simpa[I9]using hu
  have hd':(t.toList==[79,70,70,76,73,78,69])=true:=by simpa[qm]using hd rfl
  clear hu hd;go_enter Tryz.func92,Tryz.ntmps92
  go_wp2_with((go_at_call 143;refine(iR _ _ _ hm).mono ?_;rintro e w' ⟨rfl,rfl⟩))
  go_ret
  exact⟨rfl,hP.out,ai.refl _ _⟩
 ·have hu':(t.toList==[79,78,76,73,78,69])=true:=by simpa[I9]using hu
  clear hu hd;go_enter Tryz.func92,Tryz.ntmps92
  go_wp2_with((go_at_call 143;refine(iR _ _ _ hm).mono ?_;rintro e w' ⟨rfl,rfl⟩))
  go_ret
  exact⟨rfl,hP.out,ai.refl _ _⟩
theorem DJ(b m:Nat)(st:rf)(w:World)(n t:ByteArray)(h:jR w b m st)(hn:n.toList≠[])(on:Bool)(hu:(t.toList==I9)=on)(hd:on=false->(t.toList==qm)=true):
  Calls Tryz.prog 92 #[.pointer (some ⟨b,0,none⟩),.string n,.string t] w (kN w b m (KT st n on)):=by
 unfold KT;cases hf:kM st n with
 |some i=>exact Pe b m st w n t h hn on hu hd i hf
 |none=>
  by_cases hl:4<=st.length
  ·simp only[hl,if_true]
   exact KW b m st w n t h hn on hu hd hf hl
  ·simp only[hl,if_false]
   exact KV b m st w n t h hn on hu hd hf (by omega)
theorem take_any(b m:Nat)(st:rf)(w:World)(n t:ByteArray)(h:jR w b m st):
  Calls Tryz.prog 92 #[.pointer (some ⟨b,0,none⟩),.string n,.string t] w (kN w b m (jS st n t)):=by
 by_cases h1:n.toList=[]
 ·exact DF b m st w n t h (.inl h1)
 ·by_cases h2:t.toList=I9
  ·have e:jS st n t=KT st n true:=by simp[jS,h1,h2]
   rw[e];exact DJ b m st w n t h h1 true (by simp[h2]) (by simp)
  ·by_cases h3:t.toList=qm
   ·have e:jS st n t=KT st n false:=by simp only[jS,if_neg h1,if_neg h2,if_pos h3]
    rw[e];exact DJ b m st w n t h h1 false (by simpa using h2) (by simp[h3])
   ·exact DF b m st w n t h (.inr ⟨h1,h2,h3⟩)
def Sm(w:World)(e:Ending)(w':World):Prop:= ∃b m,e=.returned (.pointer (some ⟨b,0,none⟩))/\jR w' b m []/\w.heap.size<=b/\w.heap.size<=m/\ai [] w w'
theorem Pf(w:World):Calls Tryz.prog 20 #[] w (Sm w):=by
 have hmm:= @run_makeMap Tryz.prog;go_enter Tryz.func20,Tryz.ntmps20
 go_wp2
 go_ret
 refine⟨w.heap.size+1,w.heap.size,rfl,⟨by omega,by simp,⟨_,heap_alloc2_new _ _ _,rfl,rfl,?_⟩,?_⟩,by omega,Nat.le_refl _,((ai.refl _ _).alloc _).alloc _⟩
 ·intro i hi
  match i,hi with
  |0,_=>exact⟨rfl,rfl⟩
  |1,_=>exact⟨rfl,rfl⟩
  |2,_=>exact⟨rfl,rfl⟩
  |3,_=>exact⟨rfl,rfl⟩
 ·exact(cu.made w).of_heap (by rw[Below.heap_alloc _ _ _ (by simp)])
end Go.Proofs.YtedcakchekaemaaGreatDoor
namespace Go.Proofs.YtedcakchekaemaaGreatDoor
open Go.RowKit
variable [Kd]
abbrev Rk:=ByteArray×ByteArray
def Bi.rk(x:Bi):Rk:=(x.k0,x.k1)
def dU(a b:Rk):Prop:=aP a.1 b.1=true\/a.1=b.1/\aP a.2 b.2=true
theorem tN(x:Bi)(k:Rk):xQ x k<0↔dU x.rk k:=by
 unfold xQ dU XI lq Bi.rk;simp only;by_cases h1:aP x.k0 k.1=true
 ·simp[h1]
 ·by_cases h2:x.k0=k.1
  ·rw[h2]
   have h3:=gM k.1;simp only[h3];by_cases h4:aP x.k1 k.2=true
   ·simp[h4]
   ·by_cases h5:(x.k1.toList==k.2.toList)=true
    ·simp[h4,h5]
    ·simp[h4,h5]
  ·have h3:(x.k0.toList==k.1.toList)=false:=by
    rw[Bool.eq_false_iff];intro h;exact h2 (fH (LawfulBEq.eq_of_beq h))
   simp[h1,h2,h3]
theorem kg{a b c:Rk}(h:dU a b)(k:dU b c):dU a c:=by
 unfold dU at*;rcases h with h|⟨h1,h2⟩
 ·rcases k with k|⟨k1,k2⟩
  ·exact .inl (jH h k)
  ·exact .inl (by rw[<-k1];exact h)
 ·rcases k with k|⟨k1,k2⟩
  ·exact .inl (by rw[h1];exact k)
  ·exact .inr ⟨h1.trans k1,jH h2 k2⟩
theorem yU(a:Rk): ¬dU a a:=by
 unfold dU;simp[gM]
theorem oJ{a b:Rk}(h: ¬dU a b)(k: ¬dU b a):a=b:=by
 unfold dU at*;simp only[not_or,not_and]at h k;have h1:a.1=b.1:=lG (by simpa using h.1) (by simpa using k.1);exact Prod.ext h1 (lG (by simpa using h.2 h1) (by simpa using k.2 h1.symm))
def fK(L:List Bi):Prop:=L.Pairwise fun x y=>dU x.rk y.rk
def tQ(k:Rk)(L:List Bi):Nat:=(L.takeWhile fun x=>decide (xQ x k<0)).length
theorem Bg(k:Rk)(L:List Bi):tQ k L<=L.length:=(List.takeWhile_prefix _).length_le
theorem xR{k:Rk}: ∀{L:List Bi},fK L-> ∀j (hj:j<L.length),xQ L[j] k<0↔j<tQ k L
 | [],_,j,hj=>by simp at hj
 |x::r,h,j,hj=>by
  obtain⟨h1,h2⟩:=List.pairwise_cons.1 h;unfold tQ;by_cases hx:xQ x k<0
  ·rw[List.takeWhile_cons,if_pos (by simpa using hx),List.length_cons]
   cases j with
   |zero=>simpa using hx
   |succ j=>
    have:=xR (k:=k) (L:=r) h2 j (by simpa using hj);unfold tQ at this;simpa using this
  ·rw[List.takeWhile_cons,if_neg (by simpa using hx)]
   simp only[List.length_nil,Nat.not_lt_zero,iff_false];cases j with
   |zero=>simpa using hx
   |succ j=>
    intro hh;refine hx ((tN _ _).2 (kg (h1 _ (List.getElem_mem (by simpa using hj))) ((tN _ _).1 (by simpa using hh))))
theorem oK{L:List Bi}(h:fK L)(k:Rk):fK (dF k L):=h.sublist List.filter_sublist
theorem nO(k:Rk)(L:List Bi):(dF k L).length<=L.length:=List.length_filter_le _ _
def xS(t x:ByteArray)(L:List Bi):Int×List Bi:=
 if(jf t).2=false then(13,L)else
 if(dF (jf t).1 L).length=L.length/\40<=(dF (jf t).1 L).length then(6,dF (jf t).1 L)
 else(0,(dF (jf t).1 L).take (tQ (jf t).1 (dF (jf t).1 L))++[⟨(jf t).1.1,(jf t).1.2,x⟩]++(dF (jf t).1 L).drop (tQ (jf t).1 (dF (jf t).1 L)))
def xU(t:ByteArray)(L:List Bi):List Bi:=if(jf t).2=false then L else dF (jf t).1 L
structure jQ (w:World) (b:Nat) (v:Value) (L:List Bi):Prop where
 row:w.heap[b]?=some (.cells #[v,.bool true] 150 (0,0))
 l:Sl 227 bK 3 0 w v L
 ap:v.ownBlock≠some b
 few:L.length<=40
def aZ(b:Nat)(v:Value):List Nat:=b::v.ownBlock.toList
theorem jQ.own{S:List Nat}{w w':World}{b:Nat}{v:Value}{L:List Bi}(h:jQ w b v L)(ho:ai S w w')(hS: ∀x∈aZ b v,x∉S):jQ w' b v L:=
 ⟨ho.heap h.row (hS b (by simp[aZ])),h.l.own ho (fun g hg=>hS g (by simp[aZ,hg])),h.ap,h.few⟩
theorem jQ.nil'{w w':World}{b:Nat}{v:Value}{L:List Bi}(h:jQ w b v L)(ho:ai [] w w'):jQ w' b v L:=h.own ho (by simp)
theorem jQ.lt{w:World}{b:Nat}{v:Value}{L:List Bi}(h:jQ w b v L): ∀x∈aZ b v,x<w.heap.size:=by
 intro x hx;rcases List.mem_cons.1 hx with rfl|hx
 ·exact aj h.row
 ·exact(h.l.block (Option.mem_toList.1 hx)).2
theorem jQ.cells{w:World}{b:Nat}{v:Value}{L:List Bi}(h:jQ w b v L):w.cell? ⟨b,0,none⟩=some v/\w.cell? ⟨b,1,none⟩=some (.bool true)/\w.frozen? ⟨b,0,none⟩=false:=
 ⟨cell_of_row _ _ 0 _ _ _ h.row,cell_of_row _ _ 1 _ _ _ h.row,frozen_of_row _ b 0 _ _ h.row⟩
theorem jQ.set{w:World}{b:Nat}{v v':Value}{L':List Bi}(hr:w.heap[b]?=some (.cells #[v,.bool true] 150 (0,0)))(hl:Sl 227 bK 3 0 w v' L')(ha:v'.ownBlock≠some b)(hf:L'.length<=40):
  jQ (w.setCell ⟨b,0,none⟩ v') b v' L'/\ai [b] w (w.setCell ⟨b,0,none⟩ v'):=by
 have ho:ai [b] w (w.setCell ⟨b,0,none⟩ v'):=(ai.refl _ _).setCell (.inl (by simp)) _;refine⟨⟨by have:=heap_setCell_same w b 0 _ _ v' hr;simpa using this,hl.own ho (fun g hg=>by simp;exact fun e=>ha (by rw[hg,e])),ha,hf⟩,ho⟩
theorem xV(b:Nat)(w:World)(h:w.cell? ⟨b,1,none⟩=some (.bool true)):Calls Tryz.prog 114 #[aK b] w fun e w'=>e=.returned (.bool false)/\w=w':=by
 go_enter Tryz.func114,Tryz.ntmps114
 go_wp2_with fail
 go_ret
 exact⟨rfl,rfl⟩
def tT(b:Nat)(v:Value)(k:Rk)(L:List Bi)(w:World)(e:Ending)(w':World):Prop:=
 e=.returned (.int .i64 ((L.length:Int)-(dF k L).length))/\ ∃v',jQ w' b v' (dF k L)/\ai (aZ b v) w w'/\v'.ownBlock=v.ownBlock
theorem Dx(b:Nat)(v:Value)(k:Rk)(L:List Bi)(w:World)(h:jQ w b v L):Calls Tryz.prog 170 #[aK b,.agg #[.string k.1,.string k.2]] w (tT b v k L w):=by
 have hA:=(ai.refl [] w).alloc (.cells #[.string k.1,.string k.2] 225);have hk:uT (w.alloc (.cells #[.string k.1,.string k.2] 225)) w.heap.size k:=heap_alloc_new w (.cells #[.string k.1,.string k.2] 225);have h1:=h.nil' hA;have hne:v.ownBlock≠some w.heap.size:=fun e=>by
  have:=(h.l.block e).2;omega
 have cD:=OZ k w.heap.size 0 v L _ h1.l hk hne h.few;have hbl:=aj h.row;obtain⟨va,vc,rfl⟩:=h.l.sl;obtain⟨c0,c1,z0⟩:=h1.cells;have hsub:IntKind.i64.wrap ((L.length:Int)-((dF k L).length:Int))=(L.length:Int)-((dF k L).length:Int):=IntWalk.i64_in _ (by have:=h.few;have:=nO k L;omega);have hkl:(dF k L).length<=40:=Nat.le_trans (nO k L) h.few;unfold tT;generalize hLK:dF k L=LK at*;replace cD:=af cD;have hrow:=af h1.row;have hap:=af h1.ap;change Hid _ at hkl;replace hA:=af hA;clear h h1 hk hne hLK;go_enter Tryz.func170,Tryz.ntmps170
 go_wp2_with fail
 refine cD.out.mono ?_;rintro e w2 ⟨v2,rfl,hS2,hO2,hv2⟩;have hr2:=hO2.heap hrow.out (by simpa using hap.out);obtain⟨vb,vd,rfl⟩:=hS2.sl;obtain⟨hB,hOb⟩:=jQ.set hr2 hS2 (by rw[hv2];exact hap.out) hkl.out;have d0:=cell_of_row _ b 0 _ _ _ hr2;have y0:=frozen_of_row _ b 0 _ _ hr2;have e0:=hB.cells.1;have eu:ai (aZ b (.slice va L.length vc)) w (w2.setCell ⟨b,0,none⟩ (.slice vb LK.length vd)):=
  ((hA.out.nil (S:=aZ b (.slice va L.length vc))).trans (hO2.mono (by intro x hx;exact List.mem_cons_of_mem _ hx))).trans (hOb.mono (by intro x hx;simp at hx;subst hx;simp[aZ]))
 change Hid _ at hB eu hv2;clear cD hr2 hS2 hO2 hOb;go_wp2_with fail
 go_ret
 exact⟨rfl,_,hB.out,eu.out,hv2.out⟩
theorem Gm(b:Nat)(v:Value)(k:Rk)(L:List Bi)(w:World)(h:jQ w b v L)(hs:fK L):Calls Tryz.prog 171 #[aK b,.agg #[.string k.1,.string k.2]] w fun e w'=>(∃has,e=.returned (.tuple #[.int .i64 (tQ k L),.bool has]))/\ai [] w w':=by
 have hA:=(ai.refl [] w).alloc (.cells #[.string k.1,.string k.2] 225);have hk:=heap_alloc_new w (.cells #[.string k.1,.string k.2] 225);have h1:=h.nil' hA;have cS:=fun W (ho:ai [] (w.alloc (.cells #[.string k.1,.string k.2] 225)) W)=>Sk v L k (tQ k L) W ((h1.nil' ho).l.reads dm) h.few (Bg k L) (xR hs)
 obtain⟨va,vc,rfl⟩:=h.l.sl;have kS:Hid (∀W,ai [] (w.alloc (.cells #[.string k.1,.string k.2] 225)) W->(W.cell? ⟨b,0,none⟩=some (.slice va L.length vc)/\W.cell? ⟨w.heap.size,0,none⟩=some (.string k.1)/\W.cell? ⟨w.heap.size,1,none⟩=some (.string k.2))):=af fun W ho=>⟨(h1.nil' ho).cells.1,cell_of_row _ _ 0 _ _ _ (ho.heap hk (by simp)),cell_of_row _ _ 1 _ _ _ (ho.heap hk (by simp))⟩
 generalize tQ k L=pos at*;generalize L.length=nL at*;change Hid _ at cS;replace hA:=af hA;clear h h1 hk hs;go_enter Tryz.func171,Tryz.ntmps171
 go_wp2_with fail
 generalize(w.alloc (.cells #[.string k.1,.string k.2] 225))=w1 at*;generalize w.heap.size=kq at*;have kW:=kS.out _ (ai.refl [] w1);have Ib:=kS.out _ (ai.refl [] w1).drew;go_region_held3(fun W=>W.cell? ⟨b,0,none⟩=some (.slice va nL vc)/\W.cell? ⟨kq,0,none⟩=some (.string k.1)/\W.cell? ⟨kq,1,none⟩=some (.string k.2)) (first|with_reducible exact kA|with_reducible exact Ib|with_reducible exact kW|go_keep)
  ((go_at_call 224;(with_reducible refine(cS.out _ (ai.refl [] w1).drew).mono ?_);rintro e w2 ⟨⟨has,rfl⟩,hO2⟩;have kA:=kS.out _ ((ai.refl [] w1).drew.trans hO2)))
 all_goals
  replace hO2:=af (hA.out.trans ((ai.refl [] w1).drew.trans hO2));clear kA kW Ib kS;go_wp2_with fail
  go_ret2
  exact⟨⟨_,rfl⟩,hO2.out⟩
theorem YA{P:Program}{ops:Array Oper}{o:Oper}{a:Act}{w:World}{K:Act->World->Prop}{Q:Exit->Act->World->Prop}{E:Prop}(hgd:o.guard=none)(f:FuncId)(args:Array Operand)(tys:Array TypeId)(ho:o.op=.call {callee:=.value (.func f),args:=args,argTypes:=tys})
  {vs:Array Value}(hvs:args.map a.eval=vs)(hent: ∀args w,(callFunc f args).run P w=.ok (.enter f args) w){R:Value->World->Prop}(hC:Calls P f vs w fun e w'=> ∃v,e=.returned v/\R v w')(h: ∀v w',R v w'->K (a.put o.dst v) w'):
  if Region.wanted o (yielded ops a.tmps)=true then Oper.wp P o a w K Q else E:=by
 have hw:Region.wanted o (yielded ops a.tmps)=true:=by simp[Region.wanted,hgd]
 rw[if_pos hw];have hr:(execOp a.eval o).run P w=.ok (.enter f vs) w:=by
  unfold execOp;simp[ho,resolve,invoke,Act.eval,hent,Deferred.ofValue];exact hvs
 unfold Oper.wp;rw[hr,Oper.upon_enter];refine hC.mono ?_;rintro e w' ⟨v,rfl,hR⟩;exact h v w' hR
theorem Dy: ∀args w,(callFunc 172 args).run Tryz.prog w=.ok (.enter 172 args) w:=enters_of Tryz.func172 (by kernel_rfl) rfl
def Bh(b:Nat)(v:Value)(L':List Bi)(w w':World):Prop:= ∃v',jQ w' b v' L'/\ai (aZ b v) w w'/\ ∀x∈aZ b v',x∈aZ b v\/w.heap.size<=x
theorem O8(b:Nat)(v:Value)(t x:ByteArray)(L:List Bi)(w:World)(h:jQ w b v L)(hs:fK L)(ht:t.size<=1048576)(hW:dz w)(hT:jG w)(hM:pG w)(hf:(xS t x L).2.length<=40):
  Calls Tryz.prog 98 #[aK b,.string t,.string x] w fun e w'=>e=.returned (.int .i64 (xS t x L).1)/\Bh b v (xS t x L).2 w w':=by
 have cN:=xV b w h.cells.2.1;have cR:=xL t w ht hW hT hM;obtain⟨P,hP⟩: ∃P,xS t x L=P:=⟨_,rfl⟩;rw[hP]at hf⊢;unfold xS at hP;generalize jf t=rk at*;obtain⟨⟨k0,k1⟩,ok⟩:=rk;simp only at cR hP;replace cN:=af cN;replace cR:=af cR;have hh:=af h;clear h hW hT hM;cases ok with
 |false=>
  rw[if_pos rfl]at hP;subst hP;go_enter Tryz.func98,Tryz.ntmps98
  go_wp2_with(go_at_call 114;((with_reducible refine cN.out.mono ?_);rintro e w2 ⟨rfl,rfl⟩))
  refine cR.out.mono ?_;rintro e w2 ⟨rfl,hO2⟩;have hO3:=af (hO2.alloc (.cells #[.string k0,.string k1] 225));clear cN cR hO2;go_wp2_with fail
  go_ret
  exact⟨rfl,v,hh.out.nil' hO3.out,hO3.out.nil,fun y hy=>.inl hy⟩
 |true=>
  simp only[Bool.true_eq_false,if_false]at hP;change Hid _ at hP;go_enter Tryz.func98,Tryz.ntmps98
  go_wp2_with(go_at_call 114;((with_reducible refine cN.out.mono ?_);rintro e w2 ⟨rfl,rfl⟩))
  refine cR.out.mono ?_;rintro e w2 ⟨rfl,hO2⟩;have hA:=(ai.refl [] w2).alloc (.cells #[.string k0,.string k1] 225);have hk3:=heap_alloc_new w2 (.cells #[.string k0,.string k1] 225);have hO3:=hO2.trans hA;have h3:=hh.out.nil' hO3;have hw2:=hO2.size;clear cN cR hO2 hA;go_upto_region 4 with(fail)
  generalize(w2.alloc (.cells #[.string k0,.string k1] 225))=w3 at*;generalize w2.heap.size=kb at*;have cL:=Dx b v (k0,k1) L w3 h3;unfold tT at cL;obtain⟨⟨x0,x1⟩,_⟩:=Gf hk3;have hkf:kb∉aZ b v:=fun hx=>by have:=hh.out.lt kb hx;omega
  change Hid _ at hkf hk3 hw2;replace cL:=af cL;replace hO3:=af hO3;clear h3;go_wp2_with fail
  refine cL.out.mono ?_;rintro e w4 ⟨rfl,v4,hB4,hO4,hv4⟩;have hk4:=hO4.heap hk3.out hkf.out;have sH:ai (aZ b v) w w4:=hO3.out.nil.trans hO4;have hfe:aZ b v4=aZ b v:=by unfold aZ;rw[hv4]
  have hs4:fK (dF (k0,k1) L):=oK hs _;have hkl:=nO (k0,k1) L;have aeu:=hB4.few;have ada:=hh.out.few;generalize dF (k0,k1) L=LK at*;obtain⟨va,vc,rfl⟩:=hB4.l.sl;have d0:=hB4.cells.1;clear cL x0 x1 hO4;by_cases hfull:LK.length=L.length/\40<=LK.length
  ·have hP':=hP.out
   rw[if_pos hfull]at hP';subst hP';have q1:((L.length:Int)-(LK.length:Int)==0)=true:=by simp;omega
   have q2:(40:Int)<=LK.length:=by omega
   change Hid _ at hfe;replace hB4:=af hB4;replace sH:=af sH;clear hfull hf;go_wp2_with fail
   go_ret
   exact⟨rfl,_,hB4.out,sH.out,fun y hy=>.inl (by rw[hfe.out]at hy;exact hy)⟩
  ·have hP':=hP.out
   rw[if_neg hfull]at hP';have cF:=Gm b _ (k0,k1) LK w4 hB4 hs4;have hpos:=Bg (k0,k1) LK;generalize tQ (k0,k1) LK=pos at*;obtain⟨⟨y0,y1⟩,_⟩:=Gf hk4;change Hid _ at hk4 hfe hpos;replace cF:=af cF;replace sH:=af sH;replace hB4:=af hB4;have hP2:=af hP';clear hP hP';have hgoal:((L.length:Int)-(LK.length:Int)==0)=false\/(((L.length:Int)-(LK.length:Int)==0)=true/\ ¬(40:Int)<=LK.length):=by
    by_cases he:LK.length=L.length
    ·exact .inr ⟨by simp;omega,by omega⟩
    ·refine .inl ?_
     rw[Bool.eq_false_iff];intro hx;have:=LawfulBEq.eq_of_beq hx;omega
   clear hfull;rcases hgoal with q1|⟨q1,q2⟩
   all_goals
    go_wp2_with fail
    refine cF.out.mono ?_;rintro e w5 ⟨⟨has,rfl⟩,aB⟩;have zi:=hB4.out.nil' aB;have hk5:=aB.heap hk4.out (by simp);have UA:=sH.out.trans aB.nil;clear cF hB4 hk4 sH aB d0 y0 y1;go_wp2_with fail
    have hf6:LK.length+1<=40:=by
     have:=hf;rw[<-hP2.out]at this;simp only[List.length_append,List.length_take,List.length_drop,List.length_singleton]at this;have:=hpos.out;omega
    obtain⟨p0,_,_⟩:=(zi.nil' ((ai.refl [] w5).drew)).cells;obtain⟨⟨kd0,kd1⟩,_⟩:=Gf ((ai.refl [] w5).drew.heap hk5 (by simp));have hAw:=((ai.refl [] w5).alloc (.cells #[.string k0,.string k1,.string x] 227)).drew;have Zl:=zi.nil' hAw;obtain⟨q0,_,_⟩:=Zl.cells;obtain⟨⟨ke0,ke1⟩,_⟩:=Gf (hAw.heap hk5 (by simp));have hvl:=zi.lt;have cI:=OV _ LK ⟨k0,k1,x⟩ w5.heap.size pos _ Zl.l (heap_alloc_new w5 (.cells #[.string k0,.string k1,.string x] 227)) (fun e=>by have:=hvl w5.heap.size (by unfold aZ;rw[e];simp);omega) (by omega) hpos.out;unfold xJ at cI;have hl6:(LK.take pos++[(⟨k0,k1,x⟩:Bi)]++LK.drop pos).length=LK.length+1:=by
     have:=hpos.out;simp only[List.length_append,List.length_take,List.length_drop,List.length_singleton];omega
    have hP3:=hP2.out;clear hP2;generalize(LK.take pos++[(⟨k0,k1,x⟩:Bi)]++LK.drop pos)=LN at*;have hP2:=af hP3;clear hP3;have Zm:=af Zl.row;have Zn:=af Zl.ap;have aez:=af hvl;change Hid _ at cI;replace UA:=af (UA.trans hAw.nil);change Hid _ at hl6 hf6;have abX:=af (aj zi.row);clear zi Zl hvl hAw hk5;go_region_law((go_loud(refine YA rfl 172 _ _ (by rfl) (by simp[Act.eval,Act.put]) Dy cI.out ?_));rintro v6 w6 ⟨Xa,bI,WR⟩;obtain⟨vb6,vd6,rfl⟩:=Xa.sl;have EA:=bI.heap Zm.out (by simpa using Zn.out);have ha6:(Value.slice vb6 LN.length vd6).ownBlock≠some b:=(fun e=>by rcases WR b e with h4|h4;exact Zn.out h4;have:=abX.out;simp at h4;omega);obtain⟨Ue,UB⟩:=jQ.set EA Xa ha6 (by rw[hl6.out];exact hf6.out);have z6:=cell_of_row _ b 0 _ _ _ EA;have f6:=frozen_of_row _ b 0 _ _ EA;replace Ue:=af Ue;replace UB:=af (And.intro bI UB);replace WR:=af WR;clear Xa EA bI)
    all_goals
     have hsz:=UA.out.size;have Xb:=(UA.out.trans (UB.out.1.mono (by intro y hy;rw[<-hfe.out];exact List.mem_cons_of_mem _ hy))).trans (UB.out.2.mono (by intro y hy;simp at hy;subst hy;simp[aZ]));change Hid _ at Xb hsz;clear p0 q0 kd0 kd1 ke0 ke1 cI;go_wp2_with fail
     go_ret
     rw[<-hP2.out];refine⟨rfl,_,Ue.out,Xb.out,fun y hy=>?_⟩;rcases List.mem_cons.1 hy with rfl|hy
     ·exact .inl (by simp[aZ])
     ·rcases WR.out y (Option.mem_toList.1 hy)with h4|h4
      ·refine .inl ?_
       rw[<-hfe.out];unfold aZ;rw[h4];simp
      ·exact .inr (Nat.le_trans hsz.out h4)
theorem zW(b:Nat)(v:Value)(t:ByteArray)(L:List Bi)(w:World)(h:jQ w b v L)(ht:t.size<=1048576)(hW:dz w)(hT:jG w)(hM:pG w):
  Calls Tryz.prog 99 #[aK b,.string t] w fun e w'=>(∃n:Int,e=.returned (.int .i64 n))/\Bh b v (xU t L) w w':=by
 have cN:=xV b w h.cells.2.1;have cR:=xL t w ht hW hT hM;unfold xU;generalize jf t=rk at*;obtain⟨⟨k0,k1⟩,ok⟩:=rk;simp only at cR⊢;replace cN:=af cN;replace cR:=af cR;have hh:=af h;clear h hW hT hM;cases ok with
 |false=>
  rw[if_pos rfl];go_enter Tryz.func99,Tryz.ntmps99
  go_wp2_with(go_at_call 114;((with_reducible refine cN.out.mono ?_);rintro e w2 ⟨rfl,rfl⟩))
  refine cR.out.mono ?_;rintro e w2 ⟨rfl,hO2⟩;have hO3:=af (hO2.alloc (.cells #[.string k0,.string k1] 225));clear cN cR hO2;go_wp2_with fail
  go_ret
  exact⟨⟨_,rfl⟩,v,hh.out.nil' hO3.out,hO3.out.nil,fun y hy=>.inl hy⟩
 |true=>
  rw[if_neg (by simp)];go_enter Tryz.func99,Tryz.ntmps99
  go_wp2_with(go_at_call 114;((with_reducible refine cN.out.mono ?_);rintro e w2 ⟨rfl,rfl⟩))
  refine cR.out.mono ?_;rintro e w2 ⟨rfl,hO2⟩;have hA:=(ai.refl [] w2).alloc (.cells #[.string k0,.string k1] 225);have hk3:=heap_alloc_new w2 (.cells #[.string k0,.string k1] 225);have hO3:=hO2.trans hA;have h3:=hh.out.nil' hO3;clear cN cR hO2 hA;go_upto_region 4 with(fail)
  generalize(w2.alloc (.cells #[.string k0,.string k1] 225))=w3 at*;generalize w2.heap.size=kb at*;have cL:=Dx b v (k0,k1) L w3 h3;unfold tT at cL;obtain⟨⟨x0,x1⟩,_⟩:=Gf hk3;replace cL:=af cL;replace hO3:=af hO3;clear h3 hk3;go_wp2_with fail
  refine cL.out.mono ?_;rintro e w4 ⟨rfl,v4,hB4,hO4,hv4⟩;change Hid _ at hB4;replace hO4:=af (hO3.out.nil.trans hO4);change Hid _ at hv4;clear cL x0 x1;go_wp2_with fail
  go_ret
  exact⟨⟨_,rfl⟩,v4,hB4.out,hO4.out,fun y hy=>.inl (by unfold aZ at hy⊢;rw[hv4.out]at hy;exact hy)⟩
end Go.Proofs.YtedcakchekaemaaGreatDoor
namespace Go.Proofs.YtedcakchekaemaaGreatDoor
open Go.RowKit
def rU(l:gN)(gap:Int)(key:ByteArray)(now:Int):gN:=if oC l gap key now then(key,now)::fD l key else l
def Ay(w:World)(rb:Nat)(gap:Int)(B:List Nat)(l:gN)(key:ByteArray)(now:Int)(e:Ending)(w':World):Prop:=
 e=.returned (.bool (oC l gap key now))/\ ∃B',ni w' rb gap B' (rU l gap key now)/\ai B w w'/\ ∀x∈B',x∈B\/w.heap.size<=x
theorem rV{l:gN}(h:(l.map (·.1)).Nodup)(key:ByteArray):((fD l key).map (·.1)).Nodup/\key∉(fD l key).map (·.1):=by
 refine⟨((List.filter_sublist (l:=l)).map _).nodup h,?_⟩;intro hm;obtain⟨p,hp,rfl⟩:=List.mem_map.1 hm;have:=(List.mem_filter.1 hp).2;simp at this
theorem Cs{l:gN}{key:ByteArray}{t:Int}(h:aS l key=some t):(fD l key).length<l.length:=by
 have hm:=Ci h;unfold fD;rcases Nat.lt_or_ge (l.filter fun p=> !(p.1==key)).length l.length with h1|h1
 ·exact h1
 ·have h2:=List.length_filter_le (fun p:ByteArray×Int=> !(p.1==key)) l
  have h3:=List.length_filter_eq_length_iff.1 (by omega:(l.filter fun p=> !(p.1==key)).length=l.length);have:=h3 _ hm;simp at this
theorem zA{l:gN}{key:ByteArray}(h:aS l key=none):fD l key=l:=by
 unfold fD;rw[List.filter_eq_self];intro p hp;have:=(dL l key).1 h p hp;simpa using this
theorem NH{ms:List Mk}{key:ByteArray}{i:Nat}(h:ng ms key=some i)(hn:((kv ms).map (·.1)).Nodup):kv (ms.eraseIdx i)=fD (kv ms) key:=by
 have h1:(kv ms).findIdx? (fun p=>p.1==key)=some i:=by
  unfold kv;rw[List.findIdx?_map];exact h
 unfold fD;rw[<-iG (fun p:ByteArray×Int=>p.1==key) (kv ms) i ?_ h1]
 ·unfold kv;rw[ChangeMaps.map_eraseIdx]
 ·rw[List.Nodup,List.pairwise_map]at hn
  exact hn.imp fun hne ⟨q1,q2⟩=>hne ((LawfulBEq.eq_of_beq q1).trans (LawfulBEq.eq_of_beq q2).symm)
theorem Iw(rb:Nat)(gap:Int)(B:List Nat)(l:gN)(key:ByteArray)(now:Int)(w:World)(h:ni w rb gap B l):
  Calls Tryz.prog 100 #[.pointer (some ⟨rb,0,none⟩),.string key,.int .i64 now] w (Ay w rb gap B l key now):=by
 have M:=af (NG rb gap B l key now w h);obtain⟨v,ms,hR,hp,QB,hvB,YL⟩:=h.at_;have hlen:ms.length<=8:=by have:=hp.length_eq;have:=h.len;simp[kv]at*;omega
 unfold Ay rU;cases hm:oC l gap key now with
 |false=>
  rw[hm]at M;have hN:=af (fun w2 (ho:ai [] w w2)=>h.nil ho);clear hR hp hm h;go_enter Tryz.func100,Tryz.ntmps100
  go_wp2_with fail
  refine M.out.mono ?_;rintro e w2 ⟨rfl,hO2⟩;go_wp2_with fail
  go_ret
  exact⟨rfl,B,hN.out _ hO2,hO2.nil,fun x hx=>.inl hx⟩
 |true=>
  rw[hm]at M;simp only[if_true];have ru:0<=now/\now<=1073741824:=by
   unfold oC at hm;have:=(Bool.and_eq_true_iff.1 hm).1;simpa[pQ]using this
  have hkn:=Cr hp h.nd;have hg:aS l key=aS (kv ms) key:=(qJ hp hkn key).symm;have hlk:(kv ms).length=l.length:=hp.length_eq;have Ua:=rV h.nd key;have hpush: ∀w2 v2 yK,bM w2 rb gap v2 yK->(kv yK).Perm (fD l key)->(fD l key).length<8->(v2.ownBlock=v.ownBlock)->(∀x∈yK,x∈ms)->ai B w w2->
    Calls Tryz.prog 176 #[.iface 286 (.pointer (some ⟨rb,1,none⟩)),.iface 291 (.pointer (some ⟨w2.heap.size,0,none⟩))] (w2.alloc (.cells #[.string key,.int .i64 now] 293)) fun e w3=>
     e=.returned (.tuple #[])/\ ∃B',ni w3 rb gap B' ((key,now)::fD l key)/\ai B w w3/\ ∀x∈B',x∈B\/w.heap.size<=x:=by
   intro w2 v2 yK hR2 hp2 hl2 hv2 hsub hO2;have hA:=(ai.refl [] w2).alloc (.cells #[.string key,.int .i64 now] 293);have eP:=hR2.nil hA;have hrl:=aj hR2.row;have adN:yK.length<8:=by have:=hp2.length_eq;simp[kv]at this;omega
   have hvl: ∀g,v2.ownBlock=some g->g<w2.heap.size:=by
    intro g hgv;obtain⟨_,⟨q1,_⟩|⟨g',cap',cur',q3,_,q5,_⟩⟩:=hR2.marks.own
    ·rw[q1]at hgv;simp[Value.ownBlock]at hgv
    ·rw[q3]at hgv;simp[Value.ownBlock]at hgv;subst hgv;exact aj q5
   refine(JW rb gap v2 yK ⟨w2.heap.size,key,now⟩ _ eP (by omega) (heap_alloc_new _ _) ru (by simp;omega) (fun e=>absurd (hvl _ e) (Nat.lt_irrefl _))).mono ?_;rintro e w3 ⟨v3,QA,rfl,oN,hp3,hv3,hO3⟩;have hsz:=hO2.size;refine⟨rfl,w2.heap.size::rb::(v3.ownBlock.toList++yK.map (·.blk)),⟨by simp;omega,?_,h.gp,v3,QA,oN,?_,by simp,fun g hg=>by simp[hg],fun x hx=>?_⟩,?_,?_⟩
   ·simp only[List.map_cons,List.nodup_cons]
    exact⟨Ua.2,Ua.1⟩
   ·have h1:(kv QA).Perm (kv (yK++[⟨w2.heap.size,key,now⟩])):=hp3.map _
    refine h1.trans ?_;simp only[kv,List.map_append,List.map_cons,List.map_nil];exact(List.perm_append_singleton _ _).trans (hp2.cons _)
   ·rcases List.mem_append.1 (hp3.mem_iff.1 hx)with h1|h1
    ·simp only[List.mem_cons,List.mem_append,List.mem_map];exact .inr (.inr (.inr ⟨x,h1,rfl⟩))
    ·rw[List.mem_singleton.1 h1];simp
   ·refine((hO2.trans hA.nil)).trans' hO3 ?_
    intro x hx;rcases List.mem_cons.1 hx with rfl|hx
    ·exact .inl QB
    ·simp only[Option.mem_toList]at hx
     exact .inl (hvB x (by rw[<-hv2];exact hx))
   ·intro x hx
    simp only[List.mem_cons,List.mem_append,List.mem_map,Option.mem_toList]at hx;rcases hx with rfl|rfl|hx|⟨y,hy,rfl⟩
    ·exact .inr hsz
    ·exact .inl QB
    ·rcases hv3 with h1|⟨g',h1,h2⟩
     ·exact .inl (hvB x (by rw[<-hv2,<-h1];exact hx))
     ·rw[h1]at hx
      obtain rfl:g'=x:=by simpa using hx
      simp at h2;exact .inr (by omega)
    ·exact .inl (YL y (hsub y hy))
  have F: ∀w2,ai [] w w2->_:=fun w2 ho=>zy rb gap v ms key w2 (hR.nil ho) (by omega)
  unfold Fh at F;cases hf:ng ms key with
  |none=>
   rw[hf]at F;have hgn:aS l key=none:=by rw[hg,Aw,hf];rfl
   have hl8:l.length<8:=by
    unfold oC at hm;rw[hgn]at hm;simpa using(Bool.and_eq_true_iff.1 hm).2
   have P:=fun w2 (ho:ai [] w w2)=>hpush w2 v ms (hR.nil ho) (by rw[zA hgn];exact hp) (by rw[zA hgn];exact hl8) rfl (fun x hx=>hx) ho.nil
   change Hid _ at P F;clear hpush hR hp hf hg hm h hkn hlk Ua hgn QB hvB YL;go_enter Tryz.func100,Tryz.ntmps100
   go_wp2_with fail
   refine M.out.mono ?_;rintro e w2 ⟨rfl,hO2⟩;go_wp2_with fail
   refine(F.out w2 hO2).mono ?_;rintro e w3 ⟨rfl,hO3⟩;go_wp2_with fail
   refine(P.out w3 (hO2.trans hO3)).mono ?_;rintro e w4 ⟨rfl,hB⟩;go_wp2_with fail
   go_ret
   exact⟨rfl,hB⟩
  |some i=>
   rw[hf]at F;have hi:=(xk hf).1;have hgs:aS l key=some (ms.getD i Mk.dflt).at_:=by rw[hg,Aw,hf];rfl
   have hdl:=Cs hgs;have hl8:=h.len;have hke:=NH hf hkn;have R:=fun w2 (ho:ai [] w w2)=>Fg rb gap v ms i w2 (hR.nil ho) hi (by omega)
   have P: ∀w2 w3 v3 QA,ai [] w w2->bM w3 rb gap v3 QA->QA.Perm (ms.eraseIdx i)->v3.ownBlock=v.ownBlock->ai (rb::v.ownBlock.toList) w2 w3->_:=
    fun w2 w3 v3 QA ho h3 hp3 hv3 ho3=>hpush w3 v3 QA h3 (((hp3.map _).trans (by
     show(kv (ms.eraseIdx i)).Perm _;rw[hke];exact hp.filter _))) (by omega) hv3 (fun x hx=>List.mem_of_mem_eraseIdx (hp3.mem_iff.1 hx)) ((ho.nil (S:=B)).trans' ho3 (by
      intro x hx;rcases List.mem_cons.1 hx with rfl|hx
      ·exact .inl QB
      ·exact .inl (hvB x (by simpa using hx))))
   have hib:(0:Int)<=i:=by omega
   change Hid _ at P F R;clear hpush hR hp hf hg hm h hkn hlk Ua hgs QB hvB YL hke hdl;go_enter Tryz.func100,Tryz.ntmps100
   go_wp2_with fail
   refine M.out.mono ?_;rintro e w2 ⟨rfl,hO2⟩;go_wp2_with fail
   refine(F.out w2 hO2).mono ?_;rintro e w3 ⟨rfl,hO3⟩;go_wp2_with fail
   refine(R.out w3 (hO2.trans hO3)).mono ?_;rintro e w4 ⟨v4,ms4,x4,rfl,oN,za,hv4,hO4⟩;go_wp2_with fail
   refine(P.out w3 w4 v4 ms4 (hO2.trans hO3) oN za hv4 hO4).mono ?_;rintro e w5 ⟨rfl,hB⟩;go_wp2_with fail
   go_ret
   exact⟨rfl,hB⟩
theorem JQ(a:Option Addr)(c:Nat)(fv:Value)(W:World):Calls Tryz.prog 104 #[.slice a 0 c,.int .i64 0,.int .i64 0,fv] W fun e w'=>e=.returned (.tuple #[])/\W=w':=by
 go_enter Tryz.func104,Tryz.ntmps104
 go_wp2_with fail
 refine wp_loop_rounds 1 ?_;rw[rounds_succ];go_wp2_with fail
 go_end0
 exact⟨rfl,rfl⟩
theorem JR(a:Option Addr)(c:Nat)(fv:Value)(n:Int)(W:World):Calls Tryz.prog 63 #[.slice a 0 c,.int .i64 0,.int .i64 0,.int .i64 n,fv] W fun e w'=>e=.returned (.tuple #[])/\W=w':=by
 have H:=af (fun W=>JQ a c fv W);go_enter Tryz.func63,Tryz.ntmps63
 go_wp2_with fail
 refine wp_loop_rounds 1 ?_;rw[rounds_succ];go_wp2_with(go_at_call 104;refine(H.out _).mono ?_;rintro e w' ⟨rfl,rfl⟩)
 (try simp only[Exit.inBlock,Exit.then]);refine bodyPost_ret (results_none rfl _ _ _) rfl ?_
 exact⟨rfl,rfl⟩
theorem E9(a:Option Addr)(c:Nat)(fv:Value)(W:World):Calls Tryz.prog 26 #[.slice a 0 c,fv] W fun e w'=>e=.returned (.tuple #[])/\W=w':=by
 have H:=af (fun n W=>JR a c fv n W);go_enter Tryz.func26,Tryz.ntmps26
 go_wp2_with(first|(go_at_call 63;refine(H.out _ _).mono ?_;rintro e w' ⟨rfl,rfl⟩)|go_in)
 go_end0
 exact⟨rfl,rfl⟩
theorem mZ(p m:Nat)(W:World)(h:W.cell? ⟨p,0,none⟩=some (.map (some m))):Calls Tryz.prog 22 #[aK p] W fun e w'=>e=.returned (.bool false)/\W=w':=by
 have hq:=fun w r=>run_eql_map_nil (P:=Tryz.prog) w 67 87 78 r Tryz.underlying67
 go_enter Tryz.func22,Tryz.ntmps22
 go_wp2_with fail
 go_ret
 exact⟨rfl,rfl⟩
theorem SN.c0{w:World}{p m h hm bb r:Nat}(H:SN w p m h hm bb r):w.cell? ⟨p,0,none⟩=some (.map (some m))/\w.cell? ⟨p,1,none⟩=some (aK h)/\w.cell? ⟨p,2,none⟩=some (aK bb)/\w.cell? ⟨p,3,none⟩=some (aK r)/\w.cell? ⟨p,4,none⟩=some (.int .i64 0):=
 ⟨by rw[cell_of_row _ _ _ _ _ _ H.sp];rfl,by rw[cell_of_row _ _ _ _ _ _ H.sp];rfl,by rw[cell_of_row _ _ _ _ _ _ H.sp];rfl,by rw[cell_of_row _ _ _ _ _ _ H.sp];rfl,by rw[cell_of_row _ _ _ _ _ _ H.sp];rfl⟩
theorem bE{w:World}{b:Nat}{x0 x1 x2 x3 x4 x5 x6 x7 x8 x9 x10 pz TW T9:Value}{T:TypeId}(h:w.heap[b]?=some (.cells #[x0,x1,x2,x3,x4,x5,x6,x7,x8,x9,x10,pz,TW,T9] T (0,0))):
  w.cell? ⟨b,0,none⟩=some x0/\w.cell? ⟨b,1,none⟩=some x1/\w.cell? ⟨b,2,none⟩=some x2/\w.cell? ⟨b,3,none⟩=some x3/\w.cell? ⟨b,4,none⟩=some x4/\w.cell? ⟨b,5,none⟩=some x5/\w.cell? ⟨b,6,none⟩=some x6/\w.cell? ⟨b,7,none⟩=some x7/\w.cell? ⟨b,8,none⟩=some x8/\w.cell? ⟨b,9,none⟩=some x9/\w.cell? ⟨b,10,none⟩=some x10/\w.cell? ⟨b,11,none⟩=some pz/\w.cell? ⟨b,12,none⟩=some TW/\w.cell? ⟨b,13,none⟩=some T9:=
 ⟨by rw[cell_of_row _ _ _ _ _ _ h];rfl,by rw[cell_of_row _ _ _ _ _ _ h];rfl,by rw[cell_of_row _ _ _ _ _ _ h];rfl,by rw[cell_of_row _ _ _ _ _ _ h];rfl,by rw[cell_of_row _ _ _ _ _ _ h];rfl,by rw[cell_of_row _ _ _ _ _ _ h];rfl,by rw[cell_of_row _ _ _ _ _ _ h];rfl,by rw[cell_of_row _ _ _ _ _ _ h];rfl,by rw[cell_of_row _ _ _ _ _ _ h];rfl,by rw[cell_of_row _ _ _ _ _ _ h];rfl,by rw[cell_of_row _ _ _ _ _ _ h];rfl,by rw[cell_of_row _ _ _ _ _ _ h];rfl,by rw[cell_of_row _ _ _ _ _ _ h];rfl,by rw[cell_of_row _ _ _ _ _ _ h];rfl⟩
structure sI where
 at':Int
 topic:ByteArray
 text:ByteArray
 qos:Int
 ret:Bool
 s:kH
 node:Value
 code:Int
 vg:ByteArray
 vn:ByteArray
 ask:Bool
def aQ(w:World)(b:Nat)(x:sI):Prop:=
 w.heap[b]?=some (.cells #[.int .i64 x.at',.string x.topic,.string x.text,.int .i64 x.qos,.bool x.ret,.int .i64 x.s.k,.string x.s.g,.string x.s.n,.string x.s.d,x.node,.int .i64 x.code,.string x.vg,.string x.vn,.bool x.ask] 80 (0,0))
theorem aQ.own{S:List Nat}{w w':World}{b:Nat}{x:sI}(h:aQ w b x)(ho:ai S w w')(hb:b∉S):aQ w' b x:=ho.heap h hb
def sV(k:Int):Bool:= !(k==0||k==4||k==8)
theorem Ck(p b:Nat)(x:sI)(w:World)(h:aQ w b x):Calls Tryz.prog 53 #[aK p,aK b] w fun e w'=>e=.returned (.bool (sV x.s.k))/\w=w':=by
 obtain⟨c0,c1,c2,c3,c4,c5,c6,c7,c8,c9,c10,c11,c12,c13⟩:=bE h;clear h;generalize x.s.k=k at*;by_cases k0:k=0
 ·subst k0
  go_enter Tryz.func53,Tryz.ntmps53
  go_wp2_with fail
  go_ret
  exact⟨rfl,rfl⟩
 ·by_cases k4:k=4
  ·subst k4
   go_enter Tryz.func53,Tryz.ntmps53
   go_wp2_with fail
   go_ret
   exact⟨rfl,rfl⟩
  ·by_cases k8:k=8
   ·subst k8
    go_enter Tryz.func53,Tryz.ntmps53
    go_wp2_with fail
    go_ret
    exact⟨rfl,rfl⟩
   ·have q0:(k==0)=false:=by simpa using k0
    have q4:(k==4)=false:=by simpa using k4
    have q8:(k==8)=false:=by simpa using k8
    have hT:sV k=true:=by unfold sV;rw[q0,q4,q8];rfl
    rw[hT];go_enter Tryz.func53,Tryz.ntmps53
    go_wp2_with fail
    go_ret
    exact⟨rfl,rfl⟩
theorem wY(p b:Nat)(x:sI)(w:World)(h:aQ w b x)(h9:x.s.k≠9):Calls Tryz.prog 54 #[aK p,aK b] w fun e w'=>e=.returned (.bool true)/\ai [b] w w'/\aQ w' b {x with vn:=x.s.n}:=by
 obtain⟨c0,c1,c2,c3,c4,c5,c6,c7,c8,c9,c10,c11,c12,c13⟩:=bE h;have z12:=frozen_of_row _ b 12 _ _ h;have hO:ai [b] w (w.setCell ⟨b,12,none⟩ (.string x.s.n)):=(ai.refl [b] w).setCell (.inl (by simp)) _;have hr:aQ (w.setCell ⟨b,12,none⟩ (.string x.s.n)) b {x with vn:=x.s.n}:=by
  have:=heap_setCell_same _ b 12 _ _ (.string x.s.n) h;simpa[aQ]using this
 have q9:(x.s.k==9)=false:=by simpa using h9
 have k9:(w.setCell ⟨b,12,none⟩ (.string x.s.n)).cell? ⟨b,5,none⟩=some (.int .i64 x.s.k):=(bE hr).2.2.2.2.2.1;go_enter Tryz.func54,Tryz.ntmps54
 go_wp2_with fail
 go_ret
 exact⟨rfl,hO,hr⟩
theorem sW(p b:Nat)(x:sI)(w:World)(h:aQ w b x)(h1:x.code≠1):Calls Tryz.prog 57 #[aK p,aK b] w fun e w'=>e=.returned (.bool true)/\w=w':=by
 obtain⟨c0,c1,c2,c3,c4,c5,c6,c7,c8,c9,c10,c11,c12,c13⟩:=bE h;have q1:(x.code==1)=false:=by simpa using h1
 go_enter Tryz.func57,Tryz.ntmps57
 go_wp2_with fail
 go_ret
 exact⟨rfl,rfl⟩
end Go.Proofs.YtedcakchekaemaaGreatDoor
