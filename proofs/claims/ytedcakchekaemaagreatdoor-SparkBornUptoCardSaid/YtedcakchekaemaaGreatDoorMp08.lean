/- Contracts of the program, part 8. -/
import Derived.Test.YtedcakchekaemaaGreatDoorMp05
import Derived.StillTailTactics
import Derived.Test.YtedcakchekaemaaGreatDoorMp06
set_option maxRecDepth 100000
set_option maxHeartbeats 16000000
set_option linter.all false
namespace Go.Proofs.YtedcakchekaemaaGreatDoor
open Go.RowKit
structure iI where
 t:Int
 h:Bool
 s:Int
 u:ByteArray
 b:ByteArray
 a:Option Addr
 M:List bW
 c:Nat
def iI.val(p:iI):Value:=.agg #[.int .u64 p.t,.bool p.h,.int .u64 p.s,.string p.u,.string p.b,.slice p.a p.M.length p.c]
def nQ(n:Int):Int×Bool:=if 256<=n then(0,false)else(n,true)
def iI.seq(p:iI):Int×Bool:=if p.h=true then nQ p.s else(0,false)
def fK(M:List bW)(nm:ByteArray):Option bW:=M.find? fun m=>m.name==nm
def rz:ByteArray:=⟨#[98,100,83,101,113]⟩
def iI.bd(p:iI):Int×Bool:=match fK p.M rz with
 |none=>(0,false)
 |some m=>if m.null=true then(0,false)else if m.vk=1\/m.vk=2 then nQ m.vn else(0,false)
theorem YM{w:World}{b:Nat}{v0 v1 v2 v3 v4 v5 v6 v7 v8 v9 v10 v11 v12 v13 v14:Value}{T:TypeId}(h:w.heap[b]?=some (.cells #[v0,v1,v2,v3,v4,v5,v6,v7,v8,v9,v10,v11,v12,v13,v14] T (0,0))):
  (w.cell? ⟨b,0,none⟩=some v0/\w.cell? ⟨b,1,none⟩=some v1/\w.cell? ⟨b,2,none⟩=some v2/\w.cell? ⟨b,3,none⟩=some v3/\w.cell? ⟨b,4,none⟩=some v4/\w.cell? ⟨b,5,none⟩=some v5/\w.cell? ⟨b,6,none⟩=some v6/\w.cell? ⟨b,7,none⟩=some v7/\w.cell? ⟨b,8,none⟩=some v8/\w.cell? ⟨b,9,none⟩=some v9/\w.cell? ⟨b,10,none⟩=some v10/\w.cell? ⟨b,11,none⟩=some v11/\w.cell? ⟨b,12,none⟩=some v12/\w.cell? ⟨b,13,none⟩=some v13/\w.cell? ⟨b,14,none⟩=some v14)/\
  (w.frozen? ⟨b,0,none⟩=false/\w.frozen? ⟨b,1,none⟩=false/\w.frozen? ⟨b,2,none⟩=false/\w.frozen? ⟨b,3,none⟩=false/\w.frozen? ⟨b,4,none⟩=false/\w.frozen? ⟨b,5,none⟩=false/\w.frozen? ⟨b,6,none⟩=false/\w.frozen? ⟨b,7,none⟩=false/\w.frozen? ⟨b,8,none⟩=false/\w.frozen? ⟨b,9,none⟩=false/\w.frozen? ⟨b,10,none⟩=false/\w.frozen? ⟨b,11,none⟩=false/\w.frozen? ⟨b,12,none⟩=false/\w.frozen? ⟨b,13,none⟩=false/\w.frozen? ⟨b,14,none⟩=false):=
 ⟨⟨ay h rfl,ay h rfl,ay h rfl,ay h rfl,ay h rfl,ay h rfl,ay h rfl,ay h rfl,ay h rfl,ay h rfl,ay h rfl,ay h rfl,ay h rfl,ay h rfl,ay h rfl⟩,aZ h 0,aZ h 1,aZ h 2,aZ h 3,aZ h 4,aZ h 5,aZ h 6,aZ h 7,aZ h 8,aZ h 9,aZ h 10,aZ h 11,aZ h 12,aZ h 13,aZ h 14⟩
theorem Ko{S:List Nat}{w w':World}{b:Nat}{v0 v1 v2 v3 v4 v5 v6 v7 v8 v9 v10 v11 v12 v13 v14:Value}(h:ai S w w')(hb:b∈S\/w.heap.size<=b):ai S w (((((((((((((((w'.setCell ⟨b,0,none⟩ v0).setCell ⟨b,1,none⟩ v1).setCell ⟨b,2,none⟩ v2).setCell ⟨b,3,none⟩ v3).setCell ⟨b,4,none⟩ v4).setCell ⟨b,5,none⟩ v5).setCell ⟨b,6,none⟩ v6).setCell ⟨b,7,none⟩ v7).setCell ⟨b,8,none⟩ v8).setCell ⟨b,9,none⟩ v9).setCell ⟨b,10,none⟩ v10).setCell ⟨b,11,none⟩ v11).setCell ⟨b,12,none⟩ v12).setCell ⟨b,13,none⟩ v13).setCell ⟨b,14,none⟩ v14):=
 ((((((((((((((h.setCell hb _).setCell hb _).setCell hb _).setCell hb _).setCell hb _).setCell hb _).setCell hb _).setCell hb _).setCell hb _).setCell hb _).setCell hb _).setCell hb _).setCell hb _).setCell hb _).setCell hb _
theorem Hu.all{w:World}{b q:Nat}{nm vs:ByteArray}{hs Ac tr nu:Bool}{al ti ty vk vn:Int}{x1 x2 x3 x4:Option Addr}{y1 z1 y2 z2 y3 z3 y4 z4:Nat}(h:Hu w b q ⟨nm,hs,al,ti,ty,Ac,tr,nu,⟨x1,y1,z1⟩,⟨x2,y2,z2⟩,vk,vn,vs,⟨x3,y3,z3⟩,⟨x4,y4,z4⟩⟩):
  w.cell? ⟨b,q,none⟩=some (.string nm)/\w.cell? ⟨b,q+1,none⟩=some (.bool hs)/\w.cell? ⟨b,q+2,none⟩=some (.int .u64 al)/\w.cell? ⟨b,q+3,none⟩=some (.int .u64 ti)/\w.cell? ⟨b,q+4,none⟩=some (.int .u32 ty)/\w.cell? ⟨b,q+5,none⟩=some (.bool Ac)/\w.cell? ⟨b,q+6,none⟩=some (.bool tr)/\w.cell? ⟨b,q+7,none⟩=some (.bool nu)/\w.cell? ⟨b,q+8,none⟩=some (.slice x1 y1 z1)/\w.cell? ⟨b,q+9,none⟩=some (.slice x2 y2 z2)/\w.cell? ⟨b,q+10,none⟩=some (.int .i64 vk)/\w.cell? ⟨b,q+11,none⟩=some (.int .u64 vn)/\w.cell? ⟨b,q+12,none⟩=some (.string vs)/\w.cell? ⟨b,q+13,none⟩=some (.slice x3 y3 z3)/\w.cell? ⟨b,q+14,none⟩=some (.slice x4 y4 z4):=
 ⟨h 0 _ rfl,h 1 _ rfl,h 2 _ rfl,h 3 _ rfl,h 4 _ rfl,h 5 _ rfl,h 6 _ rfl,h 7 _ rfl,h 8 _ rfl,h 9 _ rfl,h 10 _ rfl,h 11 _ rfl,h 12 _ rfl,h 13 _ rfl,h 14 _ rfl⟩
theorem yZ(n:Int)(w:World)(h0:0<=n):Calls Tryz.prog 293 #[.int .u64 n] w fun e w'=>e=.returned (.tuple #[.int .i64 (nQ n).1,.bool (nQ n).2])/\w=w':=by
 unfold nQ;by_cases h:256<=n
 ·rw[if_pos h]
  go_enter Tryz.func293,Tryz.ntmps293
  go_wp2_with fail
  go_ret2
  exact⟨rfl,rfl⟩
 ·rw[if_neg h]
  have h1:n<256:=by omega
  have hw:IntKind.i64.wrap n=n:=IntWalk.i64_in _ (by omega);go_enter Tryz.func293,Tryz.ntmps293
  go_wp2_with fail
  go_ret2
  exact⟨rfl,rfl⟩
theorem za(p:iI)(w:World)(h0:0<=p.s):Calls Tryz.prog 259 #[p.val] w fun e w'=>e=.returned (.tuple #[.int .i64 p.seq.1,.bool p.seq.2])/\ai [] w w':=by
 obtain⟨t,h,s,u,b,a,M,c⟩:=p;unfold iI.seq iI.val;have hO:ai [] w (w.alloc (.cells #[.int .u64 t,.bool h,.int .u64 s,.string u,.string b,.slice a M.length c] 54)):=(ai.refl _ _).alloc _;have cS:=fun W=>yZ s W h0
 simp only;generalize nQ s=r at cS⊢;obtain⟨r1,r2⟩:=r;change Hid _ at hO cS;cases h
 ·go_enter Tryz.func259,Tryz.ntmps259
  go_wp2_with fail
  go_ret2
  exact⟨rfl,hO.out⟩
 ·go_enter Tryz.func259,Tryz.ntmps259
  go_wp2_with(go_at_call 293;(with_reducible refine(cS.out _).mono ?_);rintro e w2 ⟨rfl,rfl⟩)
  go_ret2
  exact⟨rfl,hO.out⟩
theorem LZ(m:bW)(key:ByteArray)(kb:Nat)(w:World)(hk:w.cell? ⟨kb,0,none⟩=some (.string key)):
  Calls Tryz.prog 321 #[m.val,.pointer (some ⟨kb,0,none⟩)] w fun e w'=>e=.returned (.bool (m.name.toList==key.toList))/\w'=w.alloc (.cells m.cells.toArray 109):=by
 obtain⟨nm,hs,al,ti,ty,Ac,tr,nu,⟨x1,y1,z1⟩,⟨x2,y2,z2⟩,vk,vn,vs,⟨x3,y3,z3⟩,⟨x4,y4,z4⟩⟩:=m;unfold bW.val bW.cells;have hlt:=block_lt_of_cell hk;have hk2:(w.alloc (.cells #[.string nm,.bool hs,.int .u64 al,.int .u64 ti,.int .u32 ty,.bool Ac,.bool tr,.bool nu,.slice x1 y1 z1,.slice x2 y2 z2,.int .i64 vk,.int .u64 vn,.string vs,.slice x3 y3 z3,.slice x4 y4 z4] 109)).cell? ⟨kb,0,none⟩=some (.string key):=(World.cell?_alloc_lt _ _ _ hlt).trans hk;go_enter Tryz.func321,Tryz.ntmps321
 go_wp2_with fail
 go_ret
 exact⟨rfl,rfl⟩
theorem Hw(x y:ByteArray):(x==y)=(x.toList==y.toList):=beq_toListBytes x y
def lC(M:List bW)(nm:ByteArray)(w:World)(e:Ending)(w':World):Prop:=(match fK M nm with
 |none=>e=.returned (.tuple #[bW.zero.val,.bool false])
 |some m=>e=.returned (.tuple #[m.val,.bool true]))/\ai [] w w'
theorem Cg{M:List bW}{nm:ByteArray}{k:Nat}(hk:k<M.length)(h0: ∀j m,j<k->M[j]?=some m->(m.name==nm)=false)(h1:(M[k].name==nm)=true):fK M nm=some M[k]:=by
 unfold fK;induction M generalizing k with
 |nil=>simp at hk
 |cons x r ih=>
  cases k with
  |zero=>simp only[List.getElem_cons_zero]at h1;simp[h1]
  |succ k=>
   have hx:=h0 0 x (by omega) rfl;simp only[List.find?_cons,hx];simp only[List.getElem_cons_succ]at h1⊢;exact ih (by simpa using hk) (fun j m hj hm=>h0 (j+1) m (by omega) (by simpa using hm)) h1
theorem Ch{M:List bW}{nm:ByteArray}(h0: ∀j m,j<M.length->M[j]?=some m->(m.name==nm)=false):fK M nm=none:=by
 unfold fK;refine List.find?_eq_none.2 fun m hm=>?_
 obtain⟨j,hj,rfl⟩:=List.getElem_of_mem hm;have:=h0 j _ hj (List.getElem?_eq_getElem hj);simp[this]
theorem Hy(a:Option Addr)(M:List bW)(c:Nat)(key:ByteArray)(kb:Nat)(w:World)(hM:eF w a M)(hk:w.cell? ⟨kb,0,none⟩=some (.string key)):
  Calls Tryz.prog 320 #[.slice a M.length c,.func (.func 321) #[] #[.pointer (some ⟨kb,0,none⟩)]] w (lC M key w):=by
 have hl:=hM.1;have hw0:ai [] w (w.alloc (.cells #[.string ⟨#[]⟩,.bool false,.int .u64 0,.int .u64 0,.int .u32 0,.bool false,.bool false,.bool false,.slice none 0 0,.slice none 0 0,.int .i64 0,.int .u64 0,.string ⟨#[]⟩,.slice none 0 0,.slice none 0 0] 109)):=(ai.refl _ _).alloc _;have hrow:(w.alloc (.cells #[.string ⟨#[]⟩,.bool false,.int .u64 0,.int .u64 0,.int .u32 0,.bool false,.bool false,.bool false,.slice none 0 0,.slice none 0 0,.int .i64 0,.int .u64 0,.string ⟨#[]⟩,.slice none 0 0,.slice none 0 0] 109)).heap[w.heap.size]?=some (.cells #[.string ⟨#[]⟩,.bool false,.int .u64 0,.int .u64 0,.int .u32 0,.bool false,.bool false,.bool false,.slice none 0 0,.slice none 0 0,.int .i64 0,.int .u64 0,.string ⟨#[]⟩,.slice none 0 0,.slice none 0 0] 109 (0,0)):=heap_alloc_new _ _;have hM0:=hM.nil' hw0;have hk0: ∀W,ai [] (w.alloc (.cells #[.string ⟨#[]⟩,.bool false,.int .u64 0,.int .u64 0,.int .u32 0,.bool false,.bool false,.bool false,.slice none 0 0,.slice none 0 0,.int .i64 0,.int .u64 0,.string ⟨#[]⟩,.slice none 0 0,.slice none 0 0] 109)) W->W.cell? ⟨kb,0,none⟩=some (.string key):=fun W ho=>((hw0.trans ho).cell (block_lt_of_cell hk) (by simp)).trans hk
 have cP:=fun m W (ho:ai [] (w.alloc (.cells #[.string ⟨#[]⟩,.bool false,.int .u64 0,.int .u64 0,.int .u32 0,.bool false,.bool false,.bool false,.slice none 0 0,.slice none 0 0,.int .i64 0,.int .u64 0,.string ⟨#[]⟩,.slice none 0 0,.slice none 0 0] 109)) W)=>LZ m key kb W (hk0 W ho)
 have hb0:=fun W (ho:ai [] (w.alloc (.cells #[.string ⟨#[]⟩,.bool false,.int .u64 0,.int .u64 0,.int .u32 0,.bool false,.bool false,.bool false,.slice none 0 0,.slice none 0 0,.int .i64 0,.int .u64 0,.string ⟨#[]⟩,.slice none 0 0,.slice none 0 0] 109)) W)=>YM (ho.heap hrow (by simp))
 change Hid _ at cP hb0;replace hM0:=af hM0;replace hw0:=af hw0;clear hrow hk0 hk hM;go_enter Tryz.func320,Tryz.ntmps320
 go_wp2_with fail
 go_loopg[11] M.length (fun g s11 wr=> ∃(k:Nat),k<=M.length/\g=M.length-k/\s11=.int .i64 k/\Aside (ai [] (w.alloc (.cells #[.string ⟨#[]⟩,.bool false,.int .u64 0,.int .u64 0,.int .u32 0,.bool false,.bool false,.bool false,.slice none 0 0,.slice none 0 0,.int .i64 0,.int .u64 0,.string ⟨#[]⟩,.slice none 0 0,.slice none 0 0] 109)) wr/\ ∀j m,j<k->M[j]?=some m->(m.name==key)=false))
 case atStart=>exact⟨0,by omega,by omega,rfl,ai.refl _ _,fun j m hj=>by omega⟩
 case round=>
  obtain⟨k,hk,rfl,rfl,hO,h0⟩:=hrel;have k0:(0:Int)<=k:=by omega
  by_cases hlt:k<M.length
  ·have k1:(k:Int)<M.length:=by omega
   have hwk:IntKind.i64.wrap ((k:Int)+1)=(k:Int)+1:=IntWalk.i64_in _ (by omega);obtain⟨b,o,rfl,hb,hwf,hc⟩:=(hM0.out.nil' hO).met hlt;have hx:=List.getElem?_eq_getElem hlt;have hsm:=Cg (nm:=key) hlt h0;generalize M[k]=x at hc hwf hx hsm;have hn:(x.name==key)=(x.name.toList==key.toList):=Hw _ _;have Pd:=fun(W:World) (hW:ai [] (w.alloc (.cells #[.string ⟨#[]⟩,.bool false,.int .u64 0,.int .u64 0,.int .u32 0,.bool false,.bool false,.bool false,.slice none 0 0,.slice none 0 0,.int .i64 0,.int .u64 0,.string ⟨#[]⟩,.slice none 0 0,.slice none 0 0] 109)) W)=>cP.out x W hW
   have acp:Hu wr b (o+k*15) x:=hc;clear hc;have hnext:(x.name==key)=false-> ∀j m,j<k+1->M[j]?=some m->(m.name==key)=false:=fun h j m hj hm=>by
    rcases Nat.lt_or_ge j k with h3|h3
    ·exact h0 j m h3 hm
    ·obtain rfl:j=k:=by omega
     rw[hx]at hm;cases hm;exact h
   obtain⟨nm,hs,al,ti,ty,Ac,tr,nu,⟨x1,y1,z1⟩,⟨x2,y2,z2⟩,vk,vn,vs,⟨x3,y3,z3⟩,⟨x4,y4,z4⟩⟩:=x;simp only[bW.val,bW.cells]at Pd hn hsm hnext;have Dw:=hO.alloc (.cells #[.string nm,.bool hs,.int .u64 al,.int .u64 ti,.int .u32 ty,.bool Ac,.bool tr,.bool nu,.slice x1 y1 z1,.slice x2 y2 z2,.int .i64 vk,.int .u64 vn,.string vs,.slice x3 y3 z3,.slice x4 y4 z4] 109);obtain⟨c0,c1,c2,c3,c4,c5,c6,c7,c8,c9,c10,c11,c12,c13,c14⟩:=Hu.all acp;change Hid _ at Pd hO h0;have Gb:=af (Pd.out _ Dw);obtain⟨⟨r0,r1,r2,r3,r4,r5,r6,r7,r8,r9,Pe,Pf,OC,Pg,Ph⟩,f0,f1,f2,f3,f4,f5,f6,f7,f8,f9,f10,f11,f12,f13,f14⟩:=hb0.out _ (Dw.alloc (.cells #[.string nm,.bool hs,.int .u64 al,.int .u64 ti,.int .u32 ty,.bool Ac,.bool tr,.bool nu,.slice x1 y1 z1,.slice x2 y2 z2,.int .i64 vk,.int .u64 vn,.string vs,.slice x3 y3 z3,.slice x4 y4 z4] 109));have qJ:=Dw.alloc (.cells #[.string nm,.bool hs,.int .u64 al,.int .u64 ti,.int .u32 ty,.bool Ac,.bool tr,.bool nu,.slice x1 y1 z1,.slice x2 y2 z2,.int .i64 vk,.int .u64 vn,.string vs,.slice x3 y3 z3,.slice x4 y4 z4] 109);change Hid _ at Dw qJ;clear Pd acp hx hwf;cases hq:(nm.toList==key.toList)
   ·rw[hq]at Gb hn
    replace hnext:=af (hnext hn);clear hn hsm hq;go_wp2_with(go_at_call 321;(with_reducible refine Gb.out.mono ?_);rintro e w2 ⟨rfl,rfl⟩)
    go_roundg(M.length-(k+1))
    case measure=>omega
    case rel=>exact⟨k+1,by omega,rfl,by simp,qJ.out,hnext.out⟩
   ·rw[hq]at Gb hn
    replace hsm:=af (hsm hn);clear hn hnext hq;go_wp2_with(go_at_call 321;(with_reducible refine Gb.out.mono ?_);rintro e w2 ⟨rfl,rfl⟩)
    unfold lC;rw[hsm.out];exact bodyPost_ret (v:=.tuple #[.agg #[.string nm,.bool hs,.int .u64 al,.int .u64 ti,.int .u32 ty,.bool Ac,.bool tr,.bool nu,.slice x1 y1 z1,.slice x2 y2 z2,.int .i64 vk,.int .u64 vn,.string vs,.slice x3 y3 z3,.slice x4 y4 z4],.bool true]) (by simp[results,Tryz.results320,go_sem,r0,r1,r2,r3,r4,r5,r6,r7,r8,r9,Pe,Pf,OC,Pg,Ph]) rfl ⟨rfl,Ko (hw0.out.trans qJ.out) (.inr (Nat.le_refl _))⟩
  ·have k1: ¬(k:Int)<M.length:=by omega
   have hsm:=Ch (M:=M) (nm:=key) (fun j m hj hm=>h0 j m (by omega) hm);obtain⟨⟨r0,r1,r2,r3,r4,r5,r6,r7,r8,r9,Pe,Pf,OC,Pg,Ph⟩,f0,f1,f2,f3,f4,f5,f6,f7,f8,f9,f10,f11,f12,f13,f14⟩:=hb0.out _ (hO.alloc (.cells #[.string ⟨#[]⟩,.bool false,.int .u64 0,.int .u64 0,.int .u32 0,.bool false,.bool false,.bool false,.slice none 0 0,.slice none 0 0,.int .i64 0,.int .u64 0,.string ⟨#[]⟩,.slice none 0 0,.slice none 0 0] 109));have qJ:=af (hO.alloc (.cells #[.string ⟨#[]⟩,.bool false,.int .u64 0,.int .u64 0,.int .u32 0,.bool false,.bool false,.bool false,.slice none 0 0,.slice none 0 0,.int .i64 0,.int .u64 0,.string ⟨#[]⟩,.slice none 0 0,.slice none 0 0] 109));change Hid _ at hO h0 hsm;go_wp2_with fail
   unfold lC;rw[hsm.out];exact bodyPost_ret (v:=.tuple #[.agg #[.string ⟨#[]⟩,.bool false,.int .u64 0,.int .u64 0,.int .u32 0,.bool false,.bool false,.bool false,.slice none 0 0,.slice none 0 0,.int .i64 0,.int .u64 0,.string ⟨#[]⟩,.slice none 0 0,.slice none 0 0],.bool false]) (by simp[results,Tryz.results320,go_sem,r0,r1,r2,r3,r4,r5,r6,r7,r8,r9,Pe,Pf,OC,Pg,Ph]) rfl ⟨rfl,Ko (hw0.out.trans qJ.out) (.inr (Nat.le_refl _))⟩
theorem L6(q:iI)(Pj:ByteArray)(w:World)(hM:eF w q.a q.M):Calls Tryz.prog 292 #[q.val,.string Pj] w (lC q.M Pj w):=by
 obtain⟨t,h,s,u,b,a,M,c⟩:=q;unfold iI.val;simp only at hM⊢;have aL:ai [] w (((w.alloc (.cells #[.int .u64 t,.bool h,.int .u64 s,.string u,.string b,.slice a M.length c] 54)).alloc (.cells #[.string Pj] 9)).alloc (.cells #[.string ⟨#[]⟩,.bool false,.int .u64 0,.int .u64 0,.int .u32 0,.bool false,.bool false,.bool false,.slice none 0 0,.slice none 0 0,.int .i64 0,.int .u64 0,.string ⟨#[]⟩,.slice none 0 0,.slice none 0 0] 109)):=(((ai.refl _ _).alloc _).alloc _).alloc _;have hk:(((w.alloc (.cells #[.int .u64 t,.bool h,.int .u64 s,.string u,.string b,.slice a M.length c] 54)).alloc (.cells #[.string Pj] 9)).alloc (.cells #[.string ⟨#[]⟩,.bool false,.int .u64 0,.int .u64 0,.int .u32 0,.bool false,.bool false,.bool false,.slice none 0 0,.slice none 0 0,.int .i64 0,.int .u64 0,.string ⟨#[]⟩,.slice none 0 0,.slice none 0 0] 109)).cell? ⟨w.heap.size+1,0,none⟩=some (.string Pj):=by
  refine cell_of_row _ (w.heap.size+1) 0 #[.string Pj] 9 (0,0) ?_;rw[Below.heap_alloc _ _ _ (by simp)];have:=heap_alloc_new (w.alloc (.cells #[.int .u64 t,.bool h,.int .u64 s,.string u,.string b,.slice a M.length c] 54)) (.cells #[.string Pj] 9);simpa using this
 have hr:(((w.alloc (.cells #[.int .u64 t,.bool h,.int .u64 s,.string u,.string b,.slice a M.length c] 54)).alloc (.cells #[.string Pj] 9)).alloc (.cells #[.string ⟨#[]⟩,.bool false,.int .u64 0,.int .u64 0,.int .u32 0,.bool false,.bool false,.bool false,.slice none 0 0,.slice none 0 0,.int .i64 0,.int .u64 0,.string ⟨#[]⟩,.slice none 0 0,.slice none 0 0] 109)).heap[w.heap.size+1+1]?=some (.cells #[.string ⟨#[]⟩,.bool false,.int .u64 0,.int .u64 0,.int .u32 0,.bool false,.bool false,.bool false,.slice none 0 0,.slice none 0 0,.int .i64 0,.int .u64 0,.string ⟨#[]⟩,.slice none 0 0,.slice none 0 0] 109 (0,0)):=by
  have:=heap_alloc_new ((w.alloc (.cells #[.int .u64 t,.bool h,.int .u64 s,.string u,.string b,.slice a M.length c] 54)).alloc (.cells #[.string Pj] 9)) (.cells #[.string ⟨#[]⟩,.bool false,.int .u64 0,.int .u64 0,.int .u32 0,.bool false,.bool false,.bool false,.slice none 0 0,.slice none 0 0,.int .i64 0,.int .u64 0,.string ⟨#[]⟩,.slice none 0 0,.slice none 0 0] 109);simpa using this
 have cF:=Hy a M c Pj (w.heap.size+1) _ (hM.nil' aL) hk;have hb:=fun W (ho:ai [] (((w.alloc (.cells #[.int .u64 t,.bool h,.int .u64 s,.string u,.string b,.slice a M.length c] 54)).alloc (.cells #[.string Pj] 9)).alloc (.cells #[.string ⟨#[]⟩,.bool false,.int .u64 0,.int .u64 0,.int .u32 0,.bool false,.bool false,.bool false,.slice none 0 0,.slice none 0 0,.int .i64 0,.int .u64 0,.string ⟨#[]⟩,.slice none 0 0,.slice none 0 0] 109)) W)=>YM (ho.heap hr (by simp))
 have hz:w.heap.size<=w.heap.size+1+1:=by omega
 unfold lC at cF⊢;change Hid _ at hb;replace aL:=af aL;clear hk hr hM;cases hf:fK M Pj with
 |none=>
  simp only[hf]at cF;unfold bW.val bW.cells bW.zero at cF⊢;replace cF:=af cF;clear hf;go_enter Tryz.func292,Tryz.ntmps292
  go_wp2_with(go_at_call 320;refine cF.out.mono ?_;rintro e w2 ⟨rfl,hO2⟩;obtain⟨⟨r0,r1,r2,r3,r4,r5,r6,r7,r8,r9,Pe,Pf,OC,Pg,Ph⟩,f0,f1,f2,f3,f4,f5,f6,f7,f8,f9,f10,f11,f12,f13,f14⟩:=hb.out _ hO2;replace hO2:=af hO2)
  exact bodyPost_ret (v:=.tuple #[.agg #[.string ByteArray.empty,.bool false,.int .u64 0,.int .u64 0,.int .u32 0,.bool false,.bool false,.bool false,.slice none 0 0,.slice none 0 0,.int .i64 0,.int .u64 0,.string ByteArray.empty,.slice none 0 0,.slice none 0 0],.bool false]) (by simp[results,Tryz.results292,go_sem,r0,r1,r2,r3,r4,r5,r6,r7,r8,r9,Pe,Pf,OC,Pg,Ph]) rfl ⟨rfl,Ko (aL.out.trans hO2.out) (.inr hz)⟩
 |some m=>
  simp only[hf]at cF;obtain⟨nm,hs,al,ti,ty,Ac,tr,nu,⟨x1,y1,z1⟩,⟨x2,y2,z2⟩,vk,vn,vs,⟨x3,y3,z3⟩,⟨x4,y4,z4⟩⟩:=m;unfold bW.val bW.cells at cF;replace cF:=af cF;clear hf;go_enter Tryz.func292,Tryz.ntmps292
  go_wp2_with(go_at_call 320;refine cF.out.mono ?_;rintro e w2 ⟨rfl,hO2⟩;obtain⟨⟨r0,r1,r2,r3,r4,r5,r6,r7,r8,r9,Pe,Pf,OC,Pg,Ph⟩,f0,f1,f2,f3,f4,f5,f6,f7,f8,f9,f10,f11,f12,f13,f14⟩:=hb.out _ hO2;replace hO2:=af hO2)
  exact bodyPost_ret (v:=.tuple #[.agg #[.string nm,.bool hs,.int .u64 al,.int .u64 ti,.int .u32 ty,.bool Ac,.bool tr,.bool nu,.slice x1 y1 z1,.slice x2 y2 z2,.int .i64 vk,.int .u64 vn,.string vs,.slice x3 y3 z3,.slice x4 y4 z4],.bool true]) (by simp[results,Tryz.results292,go_sem,r0,r1,r2,r3,r4,r5,r6,r7,r8,r9,Pe,Pf,OC,Pg,Ph]) rfl ⟨rfl,Ko (aL.out.trans hO2.out) (.inr hz)⟩
theorem En{M:List bW}{nm:ByteArray}{m:bW}(h:fK M nm=some m):m∈M:=List.mem_of_find?_eq_some h
theorem Kq(q:iI)(w:World)(hM:eF w q.a q.M):Calls Tryz.prog 258 #[q.val] w fun e w'=>e=.returned (.tuple #[.int .i64 q.bd.1,.bool q.bd.2])/\ai [] w w':=by
 have aL:ai [] w (w.alloc (.cells #[.int .u64 q.t,.bool q.h,.int .u64 q.s,.string q.u,.string q.b,.slice q.a q.M.length q.c] 54)):=(ai.refl _ _).alloc _;have cF:=L6 q rz _ (hM.nil' aL);have hwf:=fun m (h:fK q.M rz=some m)=>hM.all_good m (En h)
 unfold iI.bd;obtain⟨t,h,s,u,b,a,M,c⟩:=q;unfold iI.val at cF⊢;simp only at hM cF hwf aL⊢;unfold lC at cF;unfold rz at*;replace aL:=af aL;clear hM;cases hf:fK M ⟨#[98,100,83,101,113]⟩with
 |none=>
  simp only[hf]at cF;unfold bW.val bW.cells bW.zero at cF;replace cF:=af cF;clear hf hwf;go_enter Tryz.func258,Tryz.ntmps258
  go_wp2_with(go_at_call 292;refine cF.out.mono ?_;rintro e w2 ⟨rfl,hO2⟩;replace hO2:=af (aL.out.trans hO2))
  go_ret2
  exact⟨rfl,hO2.out.alloc _⟩
 |some m=>
  have hm:=hwf m hf;simp only[hf]at cF;obtain⟨nm,hs,al,ti,ty,Ac,tr,nu,⟨x1,y1,z1⟩,⟨x2,y2,z2⟩,vk,vn,vs,⟨x3,y3,z3⟩,⟨x4,y4,z4⟩⟩:=m;obtain⟨_,_,_,_,_,_,hn0,hn1⟩:=hm;simp only at hn0 hn1⊢;have cS:=fun W=>yZ vn W hn0
  generalize nQ vn=r at cS⊢;obtain⟨r1,r2⟩:=r;unfold bW.val bW.cells at cF;change Hid _ at cS;replace cF:=af cF;clear hf hwf hn0 hn1;cases nu with
  |true=>
   simp only[if_true];go_enter Tryz.func258,Tryz.ntmps258
   go_wp2_with(go_at_call 292;refine cF.out.mono ?_;rintro e w2 ⟨rfl,hO2⟩;replace hO2:=af (aL.out.trans hO2))
   go_ret2
   exact⟨rfl,hO2.out.alloc _⟩
  |false=>
   simp only[Bool.false_eq_true,if_false];by_cases h1:vk=1
   ·rw[if_pos (.inl h1)]
    subst h1;go_enter Tryz.func258,Tryz.ntmps258
    go_wp2_with(first
     |(go_at_call 292;refine cF.out.mono ?_;rintro e w2 ⟨rfl,hO2⟩;replace hO2:=af (aL.out.trans hO2))
     |(go_at_call 293;refine(cS.out _).mono ?_;rintro e w3 ⟨rfl,rfl⟩))
    go_ret2
    exact⟨rfl,hO2.out.alloc _⟩
   ·have k1:(vk==1)=false:=by simpa using h1
    by_cases h2:vk=2
    ·rw[if_pos (.inr h2)]
     subst h2;go_enter Tryz.func258,Tryz.ntmps258
     go_wp2_with(first
      |(go_at_call 292;refine cF.out.mono ?_;rintro e w2 ⟨rfl,hO2⟩;replace hO2:=af (aL.out.trans hO2))
      |(go_at_call 293;refine(cS.out _).mono ?_;rintro e w3 ⟨rfl,rfl⟩))
     go_ret2
     exact⟨rfl,hO2.out.alloc _⟩
    ·have k2:(vk==2)=false:=by simpa using h2
     rw[if_neg (fun x=>x.elim h1 h2)];go_enter Tryz.func258,Tryz.ntmps258
     go_wp2_with(go_at_call 292;refine cF.out.mono ?_;rintro e w2 ⟨rfl,hO2⟩;replace hO2:=af (aL.out.trans hO2))
     go_ret2
     exact⟨rfl,hO2.out.alloc _⟩
theorem HZ{l want:dY}{ow:ByteArray}(h:eP l ow want=false): ∀p∈want,aQ (aJ l ow) p.1=none:=by
 intro p hp;rw[dW];intro q hq e;have h1:(aQ want q.1).isSome=false:=by
  have h2:=List.any_eq_false.1 h q hq;simpa using h2
 have:aQ want q.1=none:=by simpa using h1
 exact(dW _ _).1 this p hp e.symm
theorem uF(ow:ByteArray): ∀(L:List bJ) (acc want:dY),je ow L acc=some want->want.length<=acc.length+L.length
 | [],acc,want,h=>by simp[je]at h;subst h;simp
 |x::r,acc,want,h=>by
  unfold je at h;split at h
  ·split at h
   ·cases h
   ·have:=uF ow r _ want h
    simp at this⊢;omega
  ·have:=uF ow r _ want h
   simp at this⊢;omega
def Vy(w:World)(r:Int×dY)(e:Ending)(w':World):Prop:=
 (if r.1=0 then∃m,e=.returned (.tuple #[.map (some m),.int .i64 0])/\dR gJ iN w' m r.2/\w.heap.size<=m else e=.returned (.tuple #[.map none,.int .i64 r.1]))/\ai [] w w'
theorem Ku(b m:Nat)(l:dY)(ow:ByteArray)(a:Option Addr)(n c:Nat)(its:Nat->bJ)(w:World)(h:uS w b m l)(hA:gT w a n its)(hcap:l.length<=1000000):
  Calls Tryz.prog 296 #[.pointer (some ⟨b,0,none⟩),.string ow,.slice a n c] w (Vy w (uD l ow (fw n its))):=by
 have hm:w.cell? ⟨b,0,none⟩=some (.map (some m)):=cell_of_row w b 0 _ _ _ h.row;have F:=af (Md ow a n c its w hA);have hn:=hA.1;unfold uD;cases hf:je ow (fw n its) []with
 |none=>
  rw[hf]at F;clear h hA hf;go_enter Tryz.func296,Tryz.ntmps296
  go_wp2_with(go_at_call 312;refine(kR _ _ _ hm).mono ?_;rintro e w' ⟨rfl,rfl⟩)
  refine F.out.mono ?_;rintro e w1 ⟨rfl,hO⟩;go_wp2_with fail
  go_ret2
  exact⟨rfl,hO⟩
 |some want=>
  rw[hf]at F;have hT:=af (fun w1 (ho:ai [] w w1)=>h.own ho (by simp) (by simp));have hcl:(aJ l ow).length<=l.length:=List.length_filter_le _ _;have hwl:want.length<=140737488351232:=by have:=uF ow _ _ _ hf;simp[fw]at this;omega
  clear h hA hf;cases hx:eP l ow want with
  |true=>
   change Hid _ at hx;go_enter Tryz.func296,Tryz.ntmps296
   go_wp2_with(go_at_call 312;refine(kR _ _ _ hm).mono ?_;rintro e w' ⟨rfl,rfl⟩)
   refine F.out.mono ?_;rintro e w1 ⟨⟨mw,rfl,hM,hmw⟩,hO⟩;have O:=af (uE b m mw l want ow w1 (hT.out _ hO) hM hcap);rw[hx.out]at O;go_wp2_with fail
   refine O.out.mono ?_;rintro e w2 ⟨rfl,hO2⟩;go_wp2_with fail
   go_ret2
   exact⟨rfl,hO.trans hO2⟩
  |false=>
   change Hid _ at hx;simp only[hx.out,Bool.false_eq_true,if_false];by_cases hl:64<(aJ l ow).length+want.length
   ·simp only[if_pos hl]
    go_enter Tryz.func296,Tryz.ntmps296
    go_wp2_with(go_at_call 312;refine(kR _ _ _ hm).mono ?_;rintro e w' ⟨rfl,rfl⟩)
    refine F.out.mono ?_;rintro e w1 ⟨⟨mw,rfl,hM,hmw⟩,hO⟩;have O:=af (uE b m mw l want ow w1 (hT.out _ hO) hM hcap);rw[hx.out]at O;have hlen:=fun w2 (h2:ai [] w1 w2)=>(hM.own h2 (by simp)).len_run kz
    change Hid _ at hlen;go_wp2_with fail
    refine O.out.mono ?_;rintro e w2 ⟨rfl,hO2⟩;have acy:=hlen.out w2 hO2;go_wp2_with fail
    go_ret2
    exact⟨rfl,hO.trans hO2⟩
   ·simp only[if_neg hl]
    go_enter Tryz.func296,Tryz.ntmps296
    go_wp2_with(go_at_call 312;refine(kR _ _ _ hm).mono ?_;rintro e w' ⟨rfl,rfl⟩)
    refine F.out.mono ?_;rintro e w1 ⟨⟨mw,rfl,hM,hmw⟩,hO⟩;have O:=af (uE b m mw l want ow w1 (hT.out _ hO) hM hcap);rw[hx.out]at O;have hlen:=fun w2 (h2:ai [] w1 w2)=>(hM.own h2 (by simp)).len_run kz
    change Hid _ at hlen;go_wp2_with fail
    refine O.out.mono ?_;rintro e w2 ⟨rfl,hO2⟩;have acy:=hlen.out w2 hO2;have hl':(aJ l ow).length+want.length<=64:=by omega
    clear hl;go_wp2_with fail
    go_ret2
    exact⟨⟨mw,rfl,hM.own hO2 (by simp),hmw⟩,hO.trans hO2⟩
theorem Vz(b m:Nat)(l:dY)(ow:ByteArray)(a:Option Addr)(n c:Nat)(its:Nat->bJ)(w:World)(h:uS w b m l)(hA:gT w a n its)(hcap:l.length<=1000000):
  Calls Tryz.prog 271 #[.pointer (some ⟨b,0,none⟩),.string ow,.slice a n c] w fun e w'=>e=.returned (.int .i64 (uD l ow (fw n its)).1)/\ai [] w w':=by
 have M:=af (Ku b m l ow a n c its w h hA hcap);clear h hA;generalize uD l ow (fw n its)=r at M⊢;obtain⟨r1,r2⟩:=r;by_cases hr:r1=0
 ·subst hr
  go_enter Tryz.func271,Tryz.ntmps271
  go_wp2_with fail
  refine M.out.mono ?_;rintro e w1 ⟨hM,hO⟩;rw[if_pos rfl]at hM;obtain⟨mw,rfl,hM,hmw⟩:=hM;go_wp2_with fail
  go_ret
  exact⟨rfl,hO⟩
 ·replace hr:=af hr
  go_enter Tryz.func271,Tryz.ntmps271
  go_wp2_with fail
  refine M.out.mono ?_;rintro e w1 ⟨hM,hO⟩;rw[if_neg hr.out]at hM;subst hM;go_wp2_with fail
  go_ret
  exact⟨rfl,hO⟩
theorem H6{l:dY}{ow:ByteArray}{items:List bJ}(h:(uD l ow items).1=0):eP l ow (uD l ow items).2=false:=by
 unfold uD at h⊢;split
 ·rename_i hf;rw[hf]at h;simp at h
 ·rename_i want hf
  rw[hf]at h;simp only at h⊢;cases hc:eP l ow want with
  |true=>rw[hc]at h;simp at h
  |false=>
   rw[hc]at h;simp only[Bool.false_eq_true,if_false]at h⊢;split at h
   ·simp at h
   ·rename_i hl;rw[if_neg hl];exact hc
theorem Ci(b m:Nat)(l:dY)(ow:ByteArray)(a:Option Addr)(n c:Nat)(its:Nat->bJ)(w:World)(h:uS w b m l)(hA:gT w a n its)(hcap:l.length<=1000000):
  Calls Tryz.prog 262 #[.pointer (some ⟨b,0,none⟩),.string ow,.slice a n c] w fun e w'=>
   e=.returned (.int .i64 (pO l ow (fw n its)).1)/\uS w' b m (pO l ow (fw n its)).2/\ai [m] w w':=by
 have M:=af (Ku b m l ow a n c its w h hA hcap);have hT:=af (fun w1 (ho:ai [] w w1)=>h.own ho (by simp) (by simp));have hlt:=h.lt;have hcl:=fun h0=>H6 (l:=l) (ow:=ow) (items:=fw n its) h0
 change Hid _ at hcl;clear h hA;unfold pO;generalize uD l ow (fw n its)=r at M hcl⊢;obtain⟨r1,r2⟩:=r;by_cases hr:r1=0
 ·subst hr
  simp only[if_true];have JV:=HZ (hcl.out rfl);change Hid _ at JV;go_enter Tryz.func262,Tryz.ntmps262
  go_wp2_with fail
  refine M.out.mono ?_;rintro e w1 ⟨hM,hO⟩;rw[if_pos rfl]at hM;obtain⟨mw,rfl,hM,hmw⟩:=hM;have D:=af (Es b m l ow w1 (hT.out _ hO) hcap);go_wp2_with fail
  refine D.out.mono ?_;rintro e w2 ⟨rfl,mX,hO2⟩;have hne:m≠mw:=by have:=hlt.2;omega
  have C:=af (Qg m mw _ r2 w2 mX.map (hM.own hO2 (by simpa using hne.symm)) hne JV.out);have hm2:w2.cell? ⟨b,0,none⟩=some (.map (some m)):=cell_of_row w2 b 0 _ _ _ mX.row;change Hid _ at mX;go_wp2_with fail
  refine C.out.mono ?_;rintro e w3 ⟨rfl,eO,hO3⟩;go_wp2_with fail
  go_ret
  exact⟨rfl,⟨mX.out.ne,hO3.heap mX.out.row (by simpa using mX.out.ne),eO⟩,(hO.nil.trans hO2).trans hO3⟩
 ·rw[if_neg hr]
  have hrb:(r1 !=0)=true:=by simpa using hr
  change Hid _ at hr;go_enter Tryz.func262,Tryz.ntmps262
  go_wp2_with fail
  refine M.out.mono ?_;rintro e w1 ⟨hM,hO⟩;rw[if_neg hr.out]at hM;subst hM;go_wp2_with fail
  go_ret
  exact⟨rfl,hT.out _ hO,hO.nil⟩
end Go.Proofs.YtedcakchekaemaaGreatDoor
