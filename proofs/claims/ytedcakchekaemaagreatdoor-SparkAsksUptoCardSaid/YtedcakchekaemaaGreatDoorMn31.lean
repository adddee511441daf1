import Derived.Test.YtedcakchekaemaaGreatDoorMn24
import Derived.Test.YtedcakchekaemaaGreatDoorMn25
set_option maxRecDepth 100000
set_option maxHeartbeats 16000000
set_option linter.all false
namespace Go.Proofs.YtedcakchekaemaaGreatDoor
open Go.RowKit
variable [Kd]
structure iT {α:Type} (T:TypeId) (enc:α->List Value) (k:Nat) (W0 w:World) (b:Nat) (R:Array Value) (TY:TypeId) (i:Nat) (v:Value) (L:List α):Prop where
 own:ai [b] W0 w
 row:w.heap[b]?=some (.cells (R.setIfInBounds i v) TY (0,0))
 lt:b<W0.heap.size
 at':i<R.size
 r:Sl T enc k W0.heap.size w v L
section
variable {α : Type} {T TY : TypeId} {enc : α → List Value} {k : Nat} {W0 w w' w1 : World} {b i : Nat} {R : Array Value} {v v' : Value} {L L' : List α}
theorem iT.nil'(h:iT T enc k W0 w b R TY i v L)(ho:ai [] w w'):iT T enc k W0 w' b R TY i v L:=⟨h.own.trans ho.nil,ho.heap h.row (by simp),h.lt,h.at',h.r.nil' ho⟩
theorem iT.cell(h:iT T enc k W0 w b R TY i v L):w.cell? ⟨b,i,none⟩=some v/\w.frozen? ⟨b,i,none⟩=false:=by
 have hi:=h.at';exact⟨by rw[cell_of_row _ _ _ _ _ _ h.row];simp[hi],frozen_of_row _ b i _ _ h.row⟩
theorem iT.cell'(h:iT T enc k W0 w b R TY i v L)(j:Nat){u:Value}(hu:(R.setIfInBounds i v)[j]?=some u):w.cell? ⟨b,j,none⟩=some u/\w.frozen? ⟨b,j,none⟩=false:=
 ⟨by rw[cell_of_row _ _ _ _ _ _ h.row];exact hu,frozen_of_row _ b j _ _ h.row⟩
theorem iT.add(h:iT T enc k W0 w b R TY i v L)(h1:Sl T enc k W0.heap.size w1 v' L')(h2:ai v.ownBlock.toList w w1):
  (w1.cell? ⟨b,i,none⟩=some v/\w1.frozen? ⟨b,i,none⟩=false)/\iT T enc k W0 (w1.setCell ⟨b,i,none⟩ v') b R TY i v' L':=by
 have hi:=h.at';have hd:b∉v.ownBlock.toList:=fun hx=>by
  have:=(h.r.block (Option.mem_toList.1 hx)).1;have:=h.lt;omega
 have hb1:=h2.heap h.row hd;have hO2:ai [b] w1 (w1.setCell ⟨b,i,none⟩ v'):=(ai.refl _ _).setCell (.inl (by simp)) _;have hnd: ∀g,v'.ownBlock=some g->g≠b:=fun g hg e=>by
  have:=(h1.block hg).1;have:=h.lt;omega
 refine⟨⟨by rw[cell_of_row _ _ _ _ _ _ hb1];simp[hi],frozen_of_row _ b i _ _ hb1⟩,(h.own.trans' h2 (fun x hx=>.inr (h.r.block (Option.mem_toList.1 hx)).1)).trans hO2,?_,h.lt,hi,h1.own hO2 (fun g hg=>by simpa using hnd g hg)⟩;have:=heap_setCell_same _ b i _ _ v' hb1;rw[this]
 congr 2
 apply Array.ext_getElem?;intro j;simp only[Array.getElem?_setIfInBounds,Array.size_setIfInBounds];split<;>rfl
theorem iT.bare(h:iT T enc k W0 w b R TY i v L):Sl T enc k (Dm w).heap.size w v L:=h.r.bare
theorem iT.up(h:iT T enc k W0 w b R TY i v L)(h1:Sl T enc k (Dm w).heap.size w1 v' L')(hg: ∀g,v'.ownBlock=some g->v.ownBlock=some g\/w.heap.size<=g):Sl T enc k W0.heap.size w1 v' L':=
 h1.up (fun g hg'=>by
  rcases hg g hg' with h4|h4
  ·exact(h.r.block h4).1
  ·exact Nat.le_trans h.own.size h4)
end
end Go.Proofs.YtedcakchekaemaaGreatDoor
namespace Go.Proofs.YtedcakchekaemaaGreatDoor
open Go.RowKit
theorem Vy(xb kb:Nat)(k1 k2:ByteArray)(w:World)(h1:w.cell? ⟨xb,0,none⟩=some (.string k1))(h2:w.cell? ⟨kb,0,none⟩=some (.string k2)):
  Calls Tryz.prog 230 #[.pointer (some ⟨xb,0,none⟩),.pointer (some ⟨kb,0,none⟩)] w fun e w'=>e=.returned (.bool (k1==k2))/\ai [] w w':=by
 rw[beq_toListBytes];go_enter Tryz.func230,Tryz.ntmps230
 go_wp2_with fail
 go_quiet(fail)
 go_wp2_with fail
 go_ret
 exact⟨rfl,(ai.refl _ _).drewN _⟩
def ng(ms:List Mk)(key:ByteArray):Option Nat:=ms.findIdx? fun x=>x.key==key
def Fh(ms:List Mk)(key:ByteArray):Int:=match ng ms key with|some i=>i|none=> -1
theorem Fj{ms:List Mk}{key:ByteArray}{i:Nat}(hi:i<ms.length)(h0: ∀j,j<i->((ms.getD j Mk.dflt).key==key)=false)(h1:((ms.getD i Mk.dflt).key==key)=true):ng ms key=some i:=by
 unfold ng;rw[List.findIdx?_eq_some_iff_getElem];simp only[List.getD,List.getElem?_eq_getElem hi,Option.getD_some]at h1;refine⟨hi,h1,fun j hj=>?_⟩;have:=h0 j hj;simp only[List.getD,List.getElem?_eq_getElem (show j<ms.length by omega),Option.getD_some]at this;simp[this]
theorem Fp{ms:List Mk}{key:ByteArray}(h0: ∀j,j<ms.length->((ms.getD j Mk.dflt).key==key)=false):ng ms key=none:=by
 unfold ng;rw[List.findIdx?_eq_none_iff];intro x hx;obtain⟨j,hj,rfl⟩:=List.getElem_of_mem hx;have:=h0 j hj;simpa only[List.getD,List.getElem?_eq_getElem hj,Option.getD_some]using this
theorem xk{ms:List Mk}{key:ByteArray}{i:Nat}(h:ng ms key=some i):i<ms.length/\(ms.getD i Mk.dflt).key=key:=by
 obtain⟨hl,hk,_⟩:=List.findIdx?_eq_some_iff_getElem.1 h;refine⟨hl,?_⟩;simp only[List.getD,List.getElem?_eq_getElem hl,Option.getD_some];exact LawfulBEq.eq_of_beq hk
theorem Fq(v:Value)(ms:List Mk)(kb:Nat)(key:ByteArray)(w:World)(h:rD w v ms)(hl:ms.length<=1000)(hk:w.cell? ⟨kb,0,none⟩=some (.string key)):
  Calls Tryz.prog 229 #[v,.func (.func 230) #[] #[.pointer (some ⟨kb,0,none⟩)]] w fun e w'=>e=.returned (.int .i64 (Fh ms key))/\ai [] w w':=by
 obtain⟨a,cap,rfl⟩:=h.sl;have hkb:=block_lt_of_cell hk;generalize hr:Fh ms key=r;change Hid _ at hr;have hcells: ∀j,j<ms.length-> ∃g,a=some ⟨g,0,none⟩/\g<w.heap.size/\w.cell? ⟨g,j,none⟩=some (.pointer (some ⟨(ms.getD j Mk.dflt).blk,0,none⟩))/\w.cell? ⟨(ms.getD j Mk.dflt).blk,0,none⟩=some (.string (ms.getD j Mk.dflt).key):=by
  intro j hj;obtain⟨g,cap',cur,hv,hg,hn,hs,hc⟩:=h.shape (by omega);simp only[Value.slice.injEq]at hv;have mj:ms.getD j Mk.dflt∈ms:=by simp[List.getD,List.getElem?_eq_getElem hj]
  exact⟨g,hv.1,aj hg,(cell_of_row w g j _ _ _ hg).trans (hc j hj),cell_of_row w _ 0 _ _ _ (h.marks _ mj).1⟩
 change Hid _ at hcells;clear h;go_enter Tryz.func229,Tryz.ntmps229
 go_wp2_with fail
 go_loopg[8] ms.length (fun g s8 wr=> ∃k:Nat,k<=ms.length/\g=ms.length-k/\s8=.int .i64 k/\ai [] w wr/\Hid (∀j,j<k->((ms.getD j Mk.dflt).key==key)=false))
 case atStart=>exact⟨0,by omega,by omega,rfl,ai.refl _ _,af (fun j hj=>by omega)⟩
 case round=>
  obtain⟨k,hk1,rfl,rfl,hO,hN⟩:=hrel;by_cases hlt:k<ms.length
  ·obtain⟨g,rfl,hgl,hc,hd⟩:=hcells.out k hlt
   have hc':wr.cell? ⟨g,k,none⟩=some (.pointer (some ⟨(ms.getD k Mk.dflt).blk,0,none⟩)):=(hO.cell (p:=⟨g,k,none⟩) hgl (by simp)).trans hc;have E:=Vy (ms.getD k Mk.dflt).blk kb (ms.getD k Mk.dflt).key key wr ((hO.cell (p:=⟨(ms.getD k Mk.dflt).blk,0,none⟩) (block_lt_of_cell hd) (by simp)).trans hd) ((hO.cell (p:=⟨kb,0,none⟩) hkb (by simp)).trans hk);have hlast: ∀b,((ms.getD k Mk.dflt).key==key)=b->if b then r=k else(∀j,j<k+1->((ms.getD j Mk.dflt).key==key)=false):=by
    intro b hb;cases b
    ·simp only[Bool.false_eq_true,if_false]
     intro j hj;by_cases e:j=k
     ·rw[e];exact hb
     ·exact hN.out j (by omega)
    ·simp only[if_true]
     rw[<-hr.out];unfold Fh;rw[Fj hlt hN.out hb]
   generalize hx:ms.getD k Mk.dflt=x at*;clear hx;generalize(x.key==key)=b at E hlast;have hlast:=af (hlast b rfl);replace E:=af E;clear hc hd;go_wp2_with fail
   refine E.out.mono ?_;rintro e w2 ⟨rfl,hO2⟩;cases b
   ·go_wp2_with fail
    go_roundg(ms.length-(k+1))
    case measure=>omega
    case rel=>exact⟨k+1,by omega,rfl,by go_num,hO.trans hO2,af (by simpa using hlast.out)⟩
   ·go_wp2_with fail
    go_ret
    exact⟨by rw[show r=(k:Int)by simpa using hlast.out];rfl,hO.trans hO2⟩
  ·have hrn:r= -1:=by
    rw[<-hr.out];unfold Fh;rw[Fp (fun j hj=>hN.out j (by omega))]
   change Hid _ at hrn;have hge:ms.length<=k:=by omega
   go_wp2_with fail
   go_ret
   exact⟨by rw[hrn.out];rfl,hO⟩
theorem zy(rb:Nat)(gap:Int)(v:Value)(ms:List Mk)(key:ByteArray)(w:World)(h:bM w rb gap v ms)(hl:ms.length<=1000):
  Calls Tryz.prog 174 #[.pointer (some ⟨rb,0,none⟩),.string key] w fun e w'=>e=.returned (.int .i64 (Fh ms key))/\ai [] w w':=by
 have hrb:=aj h.row;have hO:=(ai.refl [] w).alloc (.cells #[.string key] 9);have h1:=h.nil hO;have c1:w.cell? ⟨rb,1,none⟩=some v:=cell_of_row w rb 1 _ _ _ h.row;have c1':(w.alloc (.cells #[.string key] 9)).cell? ⟨rb,1,none⟩=some v:=cell_of_row _ rb 1 _ _ _ h1.row;have I:=af (Fq v ms w.heap.size key _ h1.marks hl (by simp));clear h h1;go_enter Tryz.func174,Tryz.ntmps174
 go_wp2_with fail
 refine I.out.mono ?_;rintro e w2 ⟨rfl,hO2⟩;go_wp2_with fail
 go_ret
 exact⟨rfl,hO.trans hO2⟩
theorem kJ(rb:Nat)(w:World)(m:Bool)(hm:w.cell? ⟨rb,2,none⟩=some (.bool m)):
  Calls Tryz.prog 228 #[.pointer (some ⟨rb,0,none⟩)] w fun e w'=>e=.returned (.bool (!m))/\w=w':=by
 go_enter Tryz.func228,Tryz.ntmps228
 go_wp2
 go_ret
 exact⟨rfl,rfl⟩
def pQ(n:Int):Bool:=decide (0<=n)&&decide (n<=1073741824)
theorem JX(n:Int)(w:World):Calls Tryz.prog 49 #[.int .i64 n] w fun e w'=>e=.returned (.bool (pQ n))/\w=w':=by
 unfold pQ;by_cases h0:0<=n
 ·by_cases h1:n<=1073741824
  ·simp only[h0,h1,decide_true,Bool.and_true]
   go_enter Tryz.func49,Tryz.ntmps49
   go_wp2
   go_ret
   exact⟨rfl,rfl⟩
  ·simp only[h0,h1,decide_true,decide_false,Bool.and_false]
   go_enter Tryz.func49,Tryz.ntmps49
   go_wp2
   go_ret
   exact⟨rfl,rfl⟩
 ·simp only[h0,decide_false,Bool.false_and]
  go_enter Tryz.func49,Tryz.ntmps49
  go_wp2
  go_ret
  exact⟨rfl,rfl⟩
abbrev gN:=List (ByteArray×Int)
def kv(ms:List Mk):gN:=ms.map fun x=>(x.key,x.at_)
structure ni (w:World) (rb:Nat) (gap:Int) (B:List Nat) (l:gN):Prop where
 len:l.length<=8
 nd:(l.map (·.1)).Nodup
 gp:0<=gap/\gap<=1073741824
 at_: ∃v ms,bM w rb gap v ms/\(kv ms).Perm l/\rb∈B/\(∀g,v.ownBlock=some g->g∈B)/\ ∀x∈ms,x.blk∈B
theorem ni.own{S:List Nat}{w w':World}{rb:Nat}{gap:Int}{B:List Nat}{l:gN}(h:ni w rb gap B l)(ho:ai S w w')(hd: ∀x∈B,x∉S):ni w' rb gap B l:=
 let⟨v,ms,h1,h2,h3,h4,h5⟩:=h.at_
 ⟨h.len,h.nd,h.gp,v,ms,h1.own ho (hd _ h3) (fun g hg=>hd _ (h4 g hg)) (fun x hx=>hd _ (h5 x hx)),h2,h3,h4,h5⟩
theorem ni.nil{w w':World}{rb:Nat}{gap:Int}{B:List Nat}{l:gN}(h:ni w rb gap B l)(ho:ai [] w w'):ni w' rb gap B l:=h.own ho (by simp)
def oC(l:gN)(gap:Int)(key:ByteArray)(now:Int):Bool:=
 pQ now&&(match aS l key with|some t=>decide (gap<=now-t)|none=>decide (l.length<8))
theorem Aw(ms:List Mk)(key:ByteArray):aS (kv ms) key=(ng ms key).map fun i=>(ms.getD i Mk.dflt).at_:=by
 have h1:(kv ms).findIdx? (fun p=>key==p.1)=ng ms key:=by
  unfold kv ng;rw[List.findIdx?_map]
  congr 1;funext x
  simp only[Function.comp];cases h1:(key==x.key)<;>cases h2:(x.key==key)<;>simp_all
 rw[jF,h1];cases hf:ng ms key with
 |none=>rfl
 |some i=>
  have:=(xk hf).1;simp[kv,List.getD,List.getElem?_eq_getElem this]
theorem Cr{ms:List Mk}{l:gN}(hp:(kv ms).Perm l)(hn:(l.map (·.1)).Nodup):((kv ms).map (·.1)).Nodup:=(hp.map _).nodup_iff.2 hn
theorem NG(rb:Nat)(gap:Int)(B:List Nat)(l:gN)(key:ByteArray)(now:Int)(w:World)(h:ni w rb gap B l):
  Calls Tryz.prog 173 #[.pointer (some ⟨rb,0,none⟩),.string key,.int .i64 now] w fun e w'=>e=.returned (.bool (oC l gap key now))/\ai [] w w':=by
 obtain⟨v,ms,hR,hp,_⟩:=h.at_;have hlen:ms.length<=8:=by have:=hp.length_eq;have:=h.len;simp[kv]at*;omega
 have hll:l.length=ms.length:=by have:=hp.length_eq;simpa[kv]using this.symm
 have c2:w.cell? ⟨rb,2,none⟩=some (.bool true):=cell_of_row w rb 2 _ _ _ hR.row;have hno:=af (kJ rb w true c2);have hti:=af (JX now w);have adL:=h.gp.1;have adM:=h.gp.2;unfold oC;have hg:aS l key=aS (kv ms) key:=(qJ hp (Cr hp h.nd) key).symm;rw[hg,Aw,hll];have F:=zy rb gap v ms key w hR (by omega);unfold Fh at F;cases ht:pQ now with
 |false=>
  rw[ht]at hti;rw[Bool.false_and];clear F;go_enter Tryz.func173,Tryz.ntmps173
  go_wp2_with fail
  refine hno.out.mono ?_;rintro e w' ⟨rfl,rfl⟩;go_wp2_with fail
  refine hti.out.mono ?_;rintro e w' ⟨rfl,rfl⟩;go_wp2_with fail
  go_ret
  exact⟨rfl,ai.refl _ _⟩
 |true=>
  rw[ht]at hti;have ru:0<=now/\now<=1073741824:=by simpa[pQ]using ht
  obtain⟨hn0,hn1⟩:=ru;cases hf:ng ms key with
  |none=>
   rw[hf]at F;replace F:=af F;have hK:=fun w' (ho:ai [] w w')=>(cell_of_row w' rb 1 _ _ _ (hR.nil ho).row:w'.cell? ⟨rb,1,none⟩=some v)
   obtain⟨a,cap,rfl⟩:=hR.marks.sl;change Hid _ at hK;clear hR hp hf hg ht h;simp only[Option.map_none,Bool.true_and];go_enter Tryz.func173,Tryz.ntmps173
   go_wp2_with fail
   refine hno.out.mono ?_;rintro e w' ⟨rfl,rfl⟩;go_wp2_with fail
   refine hti.out.mono ?_;rintro e w' ⟨rfl,rfl⟩;go_wp2_with fail
   refine F.out.mono ?_;rintro e w2 ⟨rfl,hO2⟩;have c1:=hK.out w2 hO2;go_wp2_with fail
   go_ret
   exact⟨by congr 3;simp[decide_eq_decide];omega,hO2⟩
  |some i=>
   rw[hf]at F;replace F:=af F;obtain⟨hi,hkey⟩:=xk hf;have hK: ∀w',ai [] w w'-> ∃g cap,v=.slice (some ⟨g,0,none⟩) ms.length cap/\w'.cell? ⟨rb,1,none⟩=some v/\w'.cell? ⟨rb,0,none⟩=some (.int .i64 gap)/\
     w'.cell? ⟨g,i,none⟩=some (.pointer (some ⟨(ms.getD i Mk.dflt).blk,0,none⟩))/\w'.cell? ⟨(ms.getD i Mk.dflt).blk,1,none⟩=some (.int .i64 (ms.getD i Mk.dflt).at_):=by
    intro w' ho;have hR':=hR.nil ho;obtain⟨g,cap,cur,hv,hg,hn,hs,hc⟩:=hR'.marks.shape (by omega);have mi:ms.getD i Mk.dflt∈ms:=by simp[List.getD,List.getElem?_eq_getElem hi]
    exact⟨g,cap,hv,cell_of_row w' rb 1 _ _ _ hR'.row,cell_of_row w' rb 0 _ _ _ hR'.row,(cell_of_row w' g i _ _ _ hg).trans (hc i hi),cell_of_row w' _ 1 _ _ _ (hR'.marks.marks _ mi).1⟩
   have mi:ms.getD i Mk.dflt∈ms:=by simp[List.getD,List.getElem?_eq_getElem hi]
   have ht0:=(hR.marks.marks _ mi).2.1;have ht1:=(hR.marks.marks _ mi).2.2;change Hid _ at hK;clear hR hp hf hg ht h mi hkey;simp only[Option.map_some,Bool.true_and];generalize ms.getD i Mk.dflt=x at*;have b1:(0:Int)<=i:=by omega
   have b2:(i:Int)<ms.length:=by omega
   go_enter Tryz.func173,Tryz.ntmps173
   go_wp2_with fail
   refine hno.out.mono ?_;rintro e w' ⟨rfl,rfl⟩;go_wp2_with fail
   refine hti.out.mono ?_;rintro e w' ⟨rfl,rfl⟩;go_wp2_with fail
   refine F.out.mono ?_;rintro e w2 ⟨rfl,hO2⟩;obtain⟨g,cap,rfl,c1,c0,cg,cx⟩:=hK.out w2 hO2;go_wp2_with fail
   go_quiet(fail)
   go_wp2_with fail
   go_ret
   exact⟨rfl,hO2.drewN _⟩
theorem Ns{w:World}{b:Nat}{x0 x1 x2 x3 x4 x5:Value}{T:TypeId}(h:w.heap[b]?=some (.cells #[x0,x1,x2,x3,x4,x5] T (0,0))):
  w.cell? ⟨b,0,none⟩=some x0/\w.cell? ⟨b,1,none⟩=some x1/\w.cell? ⟨b,2,none⟩=some x2/\w.cell? ⟨b,3,none⟩=some x3/\w.cell? ⟨b,4,none⟩=some x4/\w.cell? ⟨b,5,none⟩=some x5:=
 ⟨by rw[cell_of_row _ _ _ _ _ _ h];rfl,by rw[cell_of_row _ _ _ _ _ _ h];rfl,by rw[cell_of_row _ _ _ _ _ _ h];rfl,by rw[cell_of_row _ _ _ _ _ _ h];rfl,by rw[cell_of_row _ _ _ _ _ _ h];rfl,by rw[cell_of_row _ _ _ _ _ _ h];rfl⟩
theorem fz6{w:World}{b:Nat}{x0 x1 x2 x3 x4 x5:Value}{T:TypeId}(h:w.heap[b]?=some (.cells #[x0,x1,x2,x3,x4,x5] T (0,0))):
  w.frozen? ⟨b,0,none⟩=false/\w.frozen? ⟨b,1,none⟩=false/\w.frozen? ⟨b,2,none⟩=false/\w.frozen? ⟨b,3,none⟩=false/\w.frozen? ⟨b,4,none⟩=false/\w.frozen? ⟨b,5,none⟩=false/\b<w.heap.size:=
 ⟨frozen_of_row w b 0 _ _ h,frozen_of_row w b 1 _ _ h,frozen_of_row w b 2 _ _ h,frozen_of_row w b 3 _ _ h,frozen_of_row w b 4 _ _ h,frozen_of_row w b 5 _ _ h,aj h⟩
def Ir(w:World)(b:Nat)(u0 u1 u2 u3 u4 u5:Value):World:=
 (((((w.setCell ⟨b,0,none⟩ u0).setCell ⟨b,1,none⟩ u1).setCell ⟨b,2,none⟩ u2).setCell ⟨b,3,none⟩ u3).setCell ⟨b,4,none⟩ u4).setCell ⟨b,5,none⟩ u5
theorem abg{w:World}{b:Nat}{x0 x1 x2 x3 x4 x5:Value}{T:TypeId}(h:w.heap[b]?=some (.cells #[x0,x1,x2,x3,x4,x5] T (0,0)))(u0 u1 u2 u3 u4 u5:Value):
  (Ir w b u0 u1 u2 u3 u4 u5).heap[b]?=some (.cells #[u0,u1,u2,u3,u4,u5] T (0,0)):=by
 have h1:=heap_setCell_same w b 0 _ T u0 h;have h2:=heap_setCell_same _ b 1 _ T u1 h1;have h3:=heap_setCell_same _ b 2 _ T u2 h2;have h4:=heap_setCell_same _ b 3 _ T u3 h3;have h5:=heap_setCell_same _ b 4 _ T u4 h4;have h6:=heap_setCell_same _ b 5 _ T u5 h5;simpa[Ir]using h6
theorem abh{w w':World}(h:ai [] w w'){b:Nat}(hb:w.heap.size<=b)(u0 u1 u2 u3 u4 u5:Value):ai [] w (Ir w' b u0 u1 u2 u3 u4 u5):=
 (((((h.setCell (.inr hb) _).setCell (.inr hb) _).setCell (.inr hb) _).setCell (.inr hb) _).setCell (.inr hb) _).setCell (.inr hb) _
def jU:Value:=.agg #[.int .u64 0,.bool false,.int .u64 0,.string ⟨#[]⟩,.string ⟨#[]⟩,.slice none 0 0]
theorem JJ(a:Option Addr)(c:Nat)(w:World):Calls Tryz.prog 164 #[.slice a 0 c] w fun e w'=>e=.returned (.tuple #[.slice none 0 0,.int .i64 0])/\ai [] w w':=by
 have hO:ai [] w (w.alloc (.cells #[.slice a 0 c,.int .i64 0,.slice none 0 0,.slice none 0 0] 339)):=(ai.refl _ _).alloc _;obtain⟨f0,f1,f2,f3⟩:=fC (heap_alloc_new w (.cells #[.slice a 0 c,.int .i64 0,.slice none 0 0,.slice none 0 0] 339));go_enter Tryz.func164,Tryz.ntmps164
 go_wp2_with fail
 refine wp_loop_rounds 1 ?_;rw[rounds_succ];go_wp2_with fail
 go_ret2
 exact⟨rfl,hO⟩
theorem JK(f:Value)(w:World):Calls Tryz.prog 211 #[.slice none 0 0,f] w fun e w'=>e=.returned (.slice none 0 0)/\w=w':=by
 go_enter Tryz.func211,Tryz.ntmps211
 go_wp2_with fail
 refine wp_loop_rounds 1 ?_;rw[rounds_succ];go_wp2_with fail
 go_ret
 exact⟨rfl,rfl⟩
theorem JL(n:Int)(w:World):Calls Tryz.prog 166 #[.slice none 0 0,.int .i64 n] w fun e w'=>e=.returned (.slice none 0 0)/\ai [] w w':=by
 have hO:ai [] w (w.alloc (.cells #[.int .i64 n] 3)):=(ai.refl _ _).alloc _;have cP:=af (fun f W=>JK f W);go_enter Tryz.func166,Tryz.ntmps166
 go_wp2_with(go_at_call 211;((with_reducible refine(cP.out _ _).mono ?_);rintro e w2 ⟨rfl,rfl⟩))
 go_ret
 exact⟨rfl,hO⟩
theorem EZ(w:World):Calls Tryz.prog 165 #[.slice none 0 0] w fun e w'=>e=.returned (.tuple #[jU,.int .i64 0])/\ai [] w w':=by
 go_enter Tryz.func165,Tryz.ntmps165
 go_wp2_with fail
 refine wp_loop_rounds 1 ?_;rw[rounds_succ];go_wp2_with fail
 obtain⟨g0,g1,g2,g3,g4,g5⟩:=Ns (((ai.refl [] (w.alloc (.cells #[.int .u64 0,.bool false,.int .u64 0,.string ⟨#[]⟩,.string ⟨#[]⟩,.slice none 0 0] 54))).alloc (.cells #[.int .u64 0,.bool false,.int .u64 0,.string ⟨#[]⟩,.string ⟨#[]⟩,.slice none 0 0] 54)).heap (heap_alloc_new w _) (by simp));refine bodyPost_ret (v:=.tuple #[jU,.int .i64 0]) (by simp[results,Tryz.results165,go_sem,g0,g1,g2,g3,g4,g5];try rfl) rfl ⟨rfl,((ai.refl [] w).alloc _).alloc _⟩
theorem Nt(a:Option Addr)(c:Nat)(w:World):Calls Tryz.prog 94 #[.slice a 0 c] w fun e w'=>e=.returned (.tuple #[jU,.int .i64 0])/\ai [] w w':=by
 have aH:ai [] w (w.alloc (.cells #[.int .u64 0,.bool false,.int .u64 0,.string ⟨#[]⟩,.string ⟨#[]⟩,.slice none 0 0] 54)):=(ai.refl _ _).alloc _;have hb:=heap_alloc_new w (.cells #[.int .u64 0,.bool false,.int .u64 0,.string ⟨#[]⟩,.string ⟨#[]⟩,.slice none 0 0] 54);have cW:=af (JJ a c (w.alloc (.cells #[.int .u64 0,.bool false,.int .u64 0,.string ⟨#[]⟩,.string ⟨#[]⟩,.slice none 0 0] 54)));have cP:=af EZ;have cA:=af (JL 2);change Hid _ at hb;replace aH:=af aH;go_enter Tryz.func94,Tryz.ntmps94
 go_wp2_with fail
 refine cW.out.mono ?_;rintro e w1 ⟨rfl,hO⟩;replace aH:Hid (ai [] w w1):=af (aH.out.trans hO);replace hb:=af (hO.heap hb.out (by simp));clear hO cW;go_wp2_with fail
 refine(cP.out w1).mono ?_;rintro e w2 ⟨rfl,hO⟩;unfold jU;replace aH:Hid (ai [] w w2):=af (aH.out.trans hO);replace hb:=af (hO.heap hb.out (by simp));clear hO cP;have hb3:=heap_alloc_new w2 (.cells #[.int .u64 0,.bool false,.int .u64 0,.string ⟨#[]⟩,.string ⟨#[]⟩,.slice none 0 0] 54);have hb0:=((ai.refl [] w2).alloc (.cells #[.int .u64 0,.bool false,.int .u64 0,.string ⟨#[]⟩,.string ⟨#[]⟩,.slice none 0 0] 54)).heap hb.out (by simp);have hO3:Hid (ai [] w (w2.alloc (.cells #[.int .u64 0,.bool false,.int .u64 0,.string ⟨#[]⟩,.string ⟨#[]⟩,.slice none 0 0] 54))):=af (aH.out.alloc _);go_wp2_with fail
 refine(cA.out _).mono ?_;rintro e w3 ⟨rfl,hO⟩;have hO4:ai [] w w3:=hO3.out.trans hO;have hc3:=hO.heap hb3 (by simp);have hc0:=hO.heap hb0 (by simp);clear hO hO3 hb3 hb0 hb aH cA;obtain⟨f0,f1,f2,f3,f4,f5⟩:=Ns hc3;obtain⟨y0,y1,y2,y3,y4,y5⟩:=Ns hc0;obtain⟨z0,z1,z2,z3,z4,z5,zl⟩:=fz6 hc0;have hr1:=abg hc0 (.int .u64 0) (.bool false) (.int .u64 0) (.string ⟨#[]⟩) (.string ⟨#[]⟩) (.slice none 0 0);have ho1:=abh hO4 (Nat.le_refl _) (.int .u64 0) (.bool false) (.int .u64 0) (.string ⟨#[]⟩) (.string ⟨#[]⟩) (.slice none 0 0);clear hc0 hc3 hO4;go_wp2_with fail
 refine wp_loop_rounds 1 ?_;rw[rounds_succ];go_wp2_with fail
 obtain⟨g0,g1,g2,g3,g4,g5⟩:=Ns hr1;unfold Ir at g0 g1 g2 g3 g4 g5;refine bodyPost_ret (v:=.tuple #[jU,.int .i64 0]) (by simp[results,Tryz.results94,go_sem,g0,g1,g2,g3,g4,g5];try rfl) rfl ⟨rfl,ho1⟩
theorem JM{w:World}{b:Nat}{x0 x1 x2 x3 x4 x5 x6 x7 x8:Value}{T:TypeId}(h:w.heap[b]?=some (.cells #[x0,x1,x2,x3,x4,x5,x6,x7,x8] T (0,0))):
  w.cell? ⟨b,0,none⟩=some x0/\w.cell? ⟨b,1,none⟩=some x1/\w.cell? ⟨b,2,none⟩=some x2/\w.cell? ⟨b,3,none⟩=some x3/\w.cell? ⟨b,4,none⟩=some x4/\w.cell? ⟨b,5,none⟩=some x5/\w.cell? ⟨b,6,none⟩=some x6/\w.cell? ⟨b,7,none⟩=some x7/\w.cell? ⟨b,8,none⟩=some x8:=
 ⟨by rw[cell_of_row _ _ _ _ _ _ h];rfl,by rw[cell_of_row _ _ _ _ _ _ h];rfl,by rw[cell_of_row _ _ _ _ _ _ h];rfl,by rw[cell_of_row _ _ _ _ _ _ h];rfl,by rw[cell_of_row _ _ _ _ _ _ h];rfl,by rw[cell_of_row _ _ _ _ _ _ h];rfl,by rw[cell_of_row _ _ _ _ _ _ h];rfl,by rw[cell_of_row _ _ _ _ _ _ h];rfl,by rw[cell_of_row _ _ _ _ _ _ h];rfl⟩
theorem Yd{w:World}{b:Nat}{x0 x1 x2 x3 x4 x5 x6 x7:Value}{T:TypeId}(h:w.heap[b]?=some (.cells #[x0,x1,x2,x3,x4,x5,x6,x7] T (0,0))):
  w.cell? ⟨b,0,none⟩=some x0/\w.cell? ⟨b,1,none⟩=some x1/\w.cell? ⟨b,2,none⟩=some x2/\w.cell? ⟨b,3,none⟩=some x3/\w.cell? ⟨b,4,none⟩=some x4/\w.cell? ⟨b,5,none⟩=some x5/\w.cell? ⟨b,6,none⟩=some x6/\w.cell? ⟨b,7,none⟩=some x7:=
 ⟨by rw[cell_of_row _ _ _ _ _ _ h];rfl,by rw[cell_of_row _ _ _ _ _ _ h];rfl,by rw[cell_of_row _ _ _ _ _ _ h];rfl,by rw[cell_of_row _ _ _ _ _ _ h];rfl,by rw[cell_of_row _ _ _ _ _ _ h];rfl,by rw[cell_of_row _ _ _ _ _ _ h];rfl,by rw[cell_of_row _ _ _ _ _ _ h];rfl,by rw[cell_of_row _ _ _ _ _ _ h];rfl⟩
def mg(w:World)(b r a:Nat)(g n:ByteArray)(p:Bool):Prop:=
 w.heap[b]?=some (.cells #[.string g,.string n,.bool false,.int .i64 0,.pointer (some ⟨r,0,none⟩),.bool p,.slice none 0 0,.pointer (some ⟨a,0,none⟩),.slice none 0 0] 159)/\
 w.heap[r]?=some (.cells #[.int .u8 0,.bool false,.bool true] 212)
theorem mg.own{w w':World}{b r a:Nat}{g n:ByteArray}{p:Bool}(h:mg w b r a g n p)(ho:ai [] w w'):mg w' b r a g n p:=
 ⟨ho.heap h.1 (by simp),ho.heap h.2 (by simp)⟩
theorem JN(g n:ByteArray)(hg:(g.toList==[])=false)(hn:(n.toList==[])=false)(w:World):Calls Tryz.prog 93 #[.string g,.string n] w fun e w'=>
  ∃b r a,e=.returned (.tuple #[.pointer (some ⟨b,0,none⟩),.int .i64 0])/\ai [] w w'/\w.heap.size<=b/\b≠r/\w.heap.size<=r/\mg w' b r a g n false:=by
 have hmm:= @run_makeMap Tryz.prog;go_enter Tryz.func93,Tryz.ntmps93
 go_wp2_with go_in
 go_ret2
 refine⟨_,w.heap.size,w.heap.size+1+1,rfl,((((ai.refl [] w).alloc _).alloc _).alloc _).alloc _,?_,?_,?_,?_,?_⟩
 ·omega
 ·omega
 ·omega
 ·have:=heap_alloc_new (((w.alloc (.cells #[.int .u8 0,.bool false,.bool true] 212)).alloc (.map #[] 0)).alloc (.cells #[.map (some (w.heap.size+1))] 336)) (.cells #[.string g,.string n,.bool false,.int .i64 0,.pointer (some ⟨w.heap.size,0,none⟩),.bool false,.slice none 0 0,.pointer (some ⟨w.heap.size+1+1,0,none⟩),.slice none 0 0] 159)
  simpa using this
 ·exact((((ai.refl [] _).alloc _).alloc _).alloc _).heap (heap_alloc_new w _) (by simp)
theorem Cb{w:World}{b r a:Nat}{g n:ByteArray}{p:Bool}(h:mg w b r a g n p)(hbr:b≠r)(d:ByteArray):
  Calls Tryz.prog 96 #[.pointer (some ⟨b,0,none⟩),.int .i64 3,.string d,jU] w fun e w'=>e=.returned (.int .i64 5)/\ai [b] w w'/\mg w' b r a g n true:=by
 unfold jU;have hP1:=(ai.refl [] w).alloc (.cells #[.int .u64 0,.bool false,.int .u64 0,.string ⟨#[]⟩,.string ⟨#[]⟩,.slice none 0 0] 54);have hP2:=hP1.alloc (.cells #[.int .u64 0,.bool false,.int .u64 0,.string ⟨#[]⟩,.string ⟨#[]⟩,.slice none 0 0] 54);have hF2:=h.own hP2;have hbl:=aj h.1;obtain⟨c0,c1,c2,c3,c4,c5,c6,c7,c8⟩:=JM h.1;obtain⟨d0,d1,d2,d3,d4,d5,d6,d7,d8⟩:=JM (h.own hP1).1;obtain⟨e0,e1,e2,e3,e4,e5,e6,e7,e8⟩:=JM (h.own hP2).1;have z5:=frozen_of_row _ b 5 _ _ (h.own hP2).1;go_enter Tryz.func96,Tryz.ntmps96
 go_wp2_with go_in
 go_ret
 have hS1:ai [b] w (w.setCell ⟨b,5,none⟩ (.bool true)):=(ai.refl [b] w).setCell (.inl (by simp)) _;have hS2:=(((ai.refl [] (w.setCell ⟨b,5,none⟩ (.bool true))).alloc (.cells #[.int .u64 0,.bool false,.int .u64 0,.string ⟨#[]⟩,.string ⟨#[]⟩,.slice none 0 0] 54)).alloc (.cells #[.int .u64 0,.bool false,.int .u64 0,.string ⟨#[]⟩,.string ⟨#[]⟩,.slice none 0 0] 54));refine⟨rfl,hS1.trans hS2.nil,?_,?_⟩
 ·have:=heap_setCell_same _ b 5 _ _ (.bool true) h.1
  exact hS2.heap (by simpa using this) (by simp)
 ·exact hS2.heap (hS1.heap h.2 (by simpa using fun e=>hbr e.symm)) (by simp)
theorem E5(W:World):Calls Tryz.prog 60 #[.slice none 0 0] W fun e w'=>e=.returned (.slice none 0 0)/\W=w':=by
 have hq:=fun w a n c=>Lib.run_eql_slice_nil (P:=Tryz.prog) w 35 162 a n c 0 0 Tryz.underlying35
 go_enter Tryz.func60,Tryz.ntmps60
 go_wp2_with go_in
 go_ret
 exact⟨rfl,rfl⟩
theorem Cc{W:World}{r:Nat}(h:W.heap[r]?=some (.cells #[.int .u8 0,.bool false,.bool true] 212)):Calls Tryz.prog 61 #[.pointer (some ⟨r,0,none⟩)] W fun e w'=>e=.returned (.tuple #[.int .i64 0,.bool false])/\W=w':=by
 have c0:W.cell? ⟨r,0,none⟩=some (.int .u8 0):=by rw[cell_of_row _ _ _ _ _ _ h];rfl
 have c1:W.cell? ⟨r,1,none⟩=some (.bool false):=by rw[cell_of_row _ _ _ _ _ _ h];rfl
 have c2:W.cell? ⟨r,2,none⟩=some (.bool true):=by rw[cell_of_row _ _ _ _ _ _ h];rfl
 go_enter Tryz.func61,Tryz.ntmps61
 go_wp2_with go_in
 go_ret2
 exact⟨rfl,rfl⟩
theorem Ce{w:World}{b r a:Nat}{g n:ByteArray}{p:Bool}(h:mg w b r a g n p):
  Calls Tryz.prog 25 #[.pointer (some ⟨b,0,none⟩)] w fun e w'=>e=.returned (.agg #[.string g,.string n,.bool false,.int .i64 0,.int .i64 0,.bool p,.slice none 0 0,.slice none 0 0])/\ai [] w w':=by
 have hP1:=(ai.refl [] w).alloc (.cells #[.string ⟨#[]⟩,.string ⟨#[]⟩,.bool false,.int .i64 0,.int .i64 0,.bool false,.slice none 0 0,.slice none 0 0] 38);obtain⟨c0,c1,c2,c3,c4,c5,c6,c7,c8⟩:=JM h.1;obtain⟨d0,d1,d2,d3,d4,d5,d6,d7,d8⟩:=JM (h.own hP1).1;go_enter Tryz.func25,Tryz.ntmps25
 have cC:=af E5;go_wp2_with(first|(go_at_call 59;go_in))
 go_region_held3(fun W'=>W'.cell? ⟨b,0,none⟩=some (.string g)/\W'.cell? ⟨b,1,none⟩=some (.string n)/\W'.cell? ⟨b,2,none⟩=some (.bool false)/\W'.cell? ⟨b,5,none⟩=some (.bool p)/\W'.cell? ⟨b,6,none⟩=some (.slice none 0 0)) (go_keep) ((go_at_call 60;((with_reducible refine(cC.out _).mono ?_);rintro e w2 ⟨rfl,rfl⟩)))
 all_goals
  have hP2:=(hP1.alloc (.cells #[.string g,.string n,.bool false,.int .i64 0,.int .i64 0,.bool p,.slice none 0 0,.slice none 0 0] 38)).drew;have hF2:=h.own hP2;have hW:=af (Cc hF2.2);obtain⟨e0,e1,e2,e3,e4,e5,e6,e7,e8⟩:=JM hF2.1;go_wp2_with(go_at_call 61;((with_reducible refine hW.out.mono ?_);rintro e w2 ⟨rfl,rfl⟩))
  refine wp_loop_rounds 1 ?_;rw[rounds_succ];go_wp2_with fail
  have hO:=(((ai.refl [] w).alloc (.cells #[.string g,.string n,.bool false,.int .i64 0,.int .i64 0,.bool p,.slice none 0 0,.slice none 0 0] 38)).alloc (.cells #[.string g,.string n,.bool false,.int .i64 0,.int .i64 0,.bool p,.slice none 0 0,.slice none 0 0] 38)).drew;have hO2:=((ai.refl [] (w.alloc (.cells #[.string g,.string n,.bool false,.int .i64 0,.int .i64 0,.bool p,.slice none 0 0,.slice none 0 0] 38))).alloc (.cells #[.string g,.string n,.bool false,.int .i64 0,.int .i64 0,.bool p,.slice none 0 0,.slice none 0 0] 38)).drew;obtain⟨g0,g1,g2,g3,g4,g5,g6,g7⟩:=Yd (hO2.heap (heap_alloc_new w _) (by simp));refine bodyPost_ret (v:=.agg #[.string g,.string n,.bool false,.int .i64 0,.int .i64 0,.bool p,.slice none 0 0,.slice none 0 0]) (by simp[results,Tryz.results25,go_sem,g0,g1,g2,g3,g4,g5,g6,g7];try rfl) rfl ⟨rfl,hO⟩
end Go.Proofs.YtedcakchekaemaaGreatDoor
