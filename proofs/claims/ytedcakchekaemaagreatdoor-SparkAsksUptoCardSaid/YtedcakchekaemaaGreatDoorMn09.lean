import Derived.Test.YtedcakchekaemaaGreatDoorMn06
import Derived.StillTailTactics
set_option maxRecDepth 100000
set_option maxHeartbeats 16000000
set_option linter.all false
namespace Go.Proofs.YtedcakchekaemaaGreatDoor
open Go.RowKit
structure gT where
 t:Int
 h:Bool
 s:Int
 u:ByteArray
 b:ByteArray
 a:Option Addr
 M:List bP
 c:Nat
def gT.val(p:gT):Value:=.agg #[.int .u64 p.t,.bool p.h,.int .u64 p.s,.string p.u,.string p.b,.slice p.a p.M.length p.c]
def mh(n:Int):Int×Bool:=if 256<=n then(0,false)else(n,true)
def gT.seq(p:gT):Int×Bool:=if p.h=true then mh p.s else(0,false)
def eZ(M:List bP)(nm:ByteArray):Option bP:=M.find? fun m=>m.name==nm
def pR:ByteArray:=⟨#[98,100,83,101,113]⟩
def gT.bd(p:gT):Int×Bool:=match eZ p.M pR with
 |none=>(0,false)
 |some m=>if m.null=true then(0,false)else if m.vk=1\/m.vk=2 then mh m.vn else(0,false)
theorem UZ{w:World}{b:Nat}{v0 v1 v2 v3 v4 v5 v6 v7 v8 v9 v10 v11 v12 v13 v14:Value}{T:TypeId}(h:w.heap[b]?=some (.cells #[v0,v1,v2,v3,v4,v5,v6,v7,v8,v9,v10,v11,v12,v13,v14] T (0,0))):
  (w.cell? ⟨b,0,none⟩=some v0/\w.cell? ⟨b,1,none⟩=some v1/\w.cell? ⟨b,2,none⟩=some v2/\w.cell? ⟨b,3,none⟩=some v3/\w.cell? ⟨b,4,none⟩=some v4/\w.cell? ⟨b,5,none⟩=some v5/\w.cell? ⟨b,6,none⟩=some v6/\w.cell? ⟨b,7,none⟩=some v7/\w.cell? ⟨b,8,none⟩=some v8/\w.cell? ⟨b,9,none⟩=some v9/\w.cell? ⟨b,10,none⟩=some v10/\w.cell? ⟨b,11,none⟩=some v11/\w.cell? ⟨b,12,none⟩=some v12/\w.cell? ⟨b,13,none⟩=some v13/\w.cell? ⟨b,14,none⟩=some v14)/\
  (w.frozen? ⟨b,0,none⟩=false/\w.frozen? ⟨b,1,none⟩=false/\w.frozen? ⟨b,2,none⟩=false/\w.frozen? ⟨b,3,none⟩=false/\w.frozen? ⟨b,4,none⟩=false/\w.frozen? ⟨b,5,none⟩=false/\w.frozen? ⟨b,6,none⟩=false/\w.frozen? ⟨b,7,none⟩=false/\w.frozen? ⟨b,8,none⟩=false/\w.frozen? ⟨b,9,none⟩=false/\w.frozen? ⟨b,10,none⟩=false/\w.frozen? ⟨b,11,none⟩=false/\w.frozen? ⟨b,12,none⟩=false/\w.frozen? ⟨b,13,none⟩=false/\w.frozen? ⟨b,14,none⟩=false):=
 ⟨⟨ax h rfl,ax h rfl,ax h rfl,ax h rfl,ax h rfl,ax h rfl,ax h rfl,ax h rfl,ax h rfl,ax h rfl,ax h rfl,ax h rfl,ax h rfl,ax h rfl,ax h rfl⟩,aV h 0,aV h 1,aV h 2,aV h 3,aV h 4,aV h 5,aV h 6,aV h 7,aV h 8,aV h 9,aV h 10,aV h 11,aV h 12,aV h 13,aV h 14⟩
theorem IB{S:List Nat}{w w':World}{b:Nat}{v0 v1 v2 v3 v4 v5 v6 v7 v8 v9 v10 v11 v12 v13 v14:Value}(h:ai S w w')(hb:b∈S\/w.heap.size<=b):ai S w (((((((((((((((w'.setCell ⟨b,0,none⟩ v0).setCell ⟨b,1,none⟩ v1).setCell ⟨b,2,none⟩ v2).setCell ⟨b,3,none⟩ v3).setCell ⟨b,4,none⟩ v4).setCell ⟨b,5,none⟩ v5).setCell ⟨b,6,none⟩ v6).setCell ⟨b,7,none⟩ v7).setCell ⟨b,8,none⟩ v8).setCell ⟨b,9,none⟩ v9).setCell ⟨b,10,none⟩ v10).setCell ⟨b,11,none⟩ v11).setCell ⟨b,12,none⟩ v12).setCell ⟨b,13,none⟩ v13).setCell ⟨b,14,none⟩ v14):=
 ((((((((((((((h.setCell hb _).setCell hb _).setCell hb _).setCell hb _).setCell hb _).setCell hb _).setCell hb _).setCell hb _).setCell hb _).setCell hb _).setCell hb _).setCell hb _).setCell hb _).setCell hb _).setCell hb _
theorem Fz.all{w:World}{b q:Nat}{nm vs:ByteArray}{hs yL tr nu:Bool}{al ti ty vk vn:Int}{x1 x2 x3 x4:Option Addr}{y1 z1 y2 z2 y3 z3 y4 z4:Nat}(h:Fz w b q ⟨nm,hs,al,ti,ty,yL,tr,nu,⟨x1,y1,z1⟩,⟨x2,y2,z2⟩,vk,vn,vs,⟨x3,y3,z3⟩,⟨x4,y4,z4⟩⟩):
  w.cell? ⟨b,q,none⟩=some (.string nm)/\w.cell? ⟨b,q+1,none⟩=some (.bool hs)/\w.cell? ⟨b,q+2,none⟩=some (.int .u64 al)/\w.cell? ⟨b,q+3,none⟩=some (.int .u64 ti)/\w.cell? ⟨b,q+4,none⟩=some (.int .u32 ty)/\w.cell? ⟨b,q+5,none⟩=some (.bool yL)/\w.cell? ⟨b,q+6,none⟩=some (.bool tr)/\w.cell? ⟨b,q+7,none⟩=some (.bool nu)/\w.cell? ⟨b,q+8,none⟩=some (.slice x1 y1 z1)/\w.cell? ⟨b,q+9,none⟩=some (.slice x2 y2 z2)/\w.cell? ⟨b,q+10,none⟩=some (.int .i64 vk)/\w.cell? ⟨b,q+11,none⟩=some (.int .u64 vn)/\w.cell? ⟨b,q+12,none⟩=some (.string vs)/\w.cell? ⟨b,q+13,none⟩=some (.slice x3 y3 z3)/\w.cell? ⟨b,q+14,none⟩=some (.slice x4 y4 z4):=
 ⟨h 0 _ rfl,h 1 _ rfl,h 2 _ rfl,h 3 _ rfl,h 4 _ rfl,h 5 _ rfl,h 6 _ rfl,h 7 _ rfl,h 8 _ rfl,h 9 _ rfl,h 10 _ rfl,h 11 _ rfl,h 12 _ rfl,h 13 _ rfl,h 14 _ rfl⟩
theorem xw(n:Int)(w:World)(h0:0<=n):Calls Tryz.prog 293 #[.int .u64 n] w fun e w'=>e=.returned (.tuple #[.int .i64 (mh n).1,.bool (mh n).2])/\w=w':=by
 unfold mh;by_cases h:256<=n
 ·rw[if_pos h]
  go_enter Tryz.func293,Tryz.ntmps293
  go_wp2_with fail
  go_ret2
  exact⟨rfl,rfl⟩
 ·rw[if_neg h]
  have h1:n<256:=by omega
  have hw:IntKind.i64.wrap n=n:=IntWalk.i64_in _ (by omega);go_enter Tryz.func293,Tryz.ntmps293
  go_wp2_with fail
  go_ret2
  exact⟨rfl,rfl⟩
theorem xA(p:gT)(w:World)(h0:0<=p.s):Calls Tryz.prog 259 #[p.val] w fun e w'=>e=.returned (.tuple #[.int .i64 p.seq.1,.bool p.seq.2])/\ai [] w w':=by
 obtain⟨t,h,s,u,b,a,M,c⟩:=p;unfold gT.seq gT.val;have hO:ai [] w (w.alloc (.cells #[.int .u64 t,.bool h,.int .u64 s,.string u,.string b,.slice a M.length c] 54)):=(ai.refl _ _).alloc _;have cS:=fun W=>xw s W h0
 simp only;generalize mh s=r at cS⊢;obtain⟨r1,r2⟩:=r;change Hid _ at hO cS;cases h
 ·go_enter Tryz.func259,Tryz.ntmps259
  go_wp2_with fail
  go_ret2
  exact⟨rfl,hO.out⟩
 ·go_enter Tryz.func259,Tryz.ntmps259
  go_wp2_with(go_at_call 293;(with_reducible refine(cS.out _).mono ?_);rintro e w2 ⟨rfl,rfl⟩)
  go_ret2
  exact⟨rfl,hO.out⟩
theorem J6(m:bP)(key:ByteArray)(kb:Nat)(w:World)(hk:w.cell? ⟨kb,0,none⟩=some (.string key)):
  Calls Tryz.prog 321 #[m.val,.pointer (some ⟨kb,0,none⟩)] w fun e w'=>e=.returned (.bool (m.name.toList==key.toList))/\w'=w.alloc (.cells m.cells.toArray 109):=by
 obtain⟨nm,hs,al,ti,ty,yL,tr,nu,⟨x1,y1,z1⟩,⟨x2,y2,z2⟩,vk,vn,vs,⟨x3,y3,z3⟩,⟨x4,y4,z4⟩⟩:=m;unfold bP.val bP.cells;have hlt:=block_lt_of_cell hk;have hk2:(w.alloc (.cells #[.string nm,.bool hs,.int .u64 al,.int .u64 ti,.int .u32 ty,.bool yL,.bool tr,.bool nu,.slice x1 y1 z1,.slice x2 y2 z2,.int .i64 vk,.int .u64 vn,.string vs,.slice x3 y3 z3,.slice x4 y4 z4] 109)).cell? ⟨kb,0,none⟩=some (.string key):=(World.cell?_alloc_lt _ _ _ hlt).trans hk;go_enter Tryz.func321,Tryz.ntmps321
 go_wp2_with fail
 go_ret
 exact⟨rfl,rfl⟩
theorem FB(x y:ByteArray):(x==y)=(x.toList==y.toList):=beq_toListBytes x y
def kz(M:List bP)(nm:ByteArray)(w:World)(e:Ending)(w':World):Prop:=(match eZ M nm with
 |none=>e=.returned (.tuple #[bP.zero.val,.bool false])
 |some m=>e=.returned (.tuple #[m.val,.bool true]))/\ai [] w w'
theorem Az{M:List bP}{nm:ByteArray}{k:Nat}(hk:k<M.length)(h0: ∀j m,j<k->M[j]?=some m->(m.name==nm)=false)(h1:(M[k].name==nm)=true):eZ M nm=some M[k]:=by
 unfold eZ;induction M generalizing k with
 |nil=>simp at hk
 |cons x r ih=>
  cases k with
  |zero=>simp only[List.getElem_cons_zero]at h1;simp[h1]
  |succ k=>
   have hx:=h0 0 x (by omega) rfl;simp only[List.find?_cons,hx];simp only[List.getElem_cons_succ]at h1⊢;exact ih (by simpa using hk) (fun j m hj hm=>h0 (j+1) m (by omega) (by simpa using hm)) h1
theorem AA{M:List bP}{nm:ByteArray}(h0: ∀j m,j<M.length->M[j]?=some m->(m.name==nm)=false):eZ M nm=none:=by
 unfold eZ;refine List.find?_eq_none.2 fun m hm=>?_
 obtain⟨j,hj,rfl⟩:=List.getElem_of_mem hm;have:=h0 j _ hj (List.getElem?_eq_getElem hj);simp[this]
theorem FC(a:Option Addr)(M:List bP)(c:Nat)(key:ByteArray)(kb:Nat)(w:World)(hM:dR w a M)(hk:w.cell? ⟨kb,0,none⟩=some (.string key)):
  Calls Tryz.prog 320 #[.slice a M.length c,.func (.func 321) #[] #[.pointer (some ⟨kb,0,none⟩)]] w (kz M key w):=by
 have hl:=hM.1;have hw0:ai [] w (w.alloc (.cells #[.string ⟨#[]⟩,.bool false,.int .u64 0,.int .u64 0,.int .u32 0,.bool false,.bool false,.bool false,.slice none 0 0,.slice none 0 0,.int .i64 0,.int .u64 0,.string ⟨#[]⟩,.slice none 0 0,.slice none 0 0] 109)):=(ai.refl _ _).alloc _;have hrow:(w.alloc (.cells #[.string ⟨#[]⟩,.bool false,.int .u64 0,.int .u64 0,.int .u32 0,.bool false,.bool false,.bool false,.slice none 0 0,.slice none 0 0,.int .i64 0,.int .u64 0,.string ⟨#[]⟩,.slice none 0 0,.slice none 0 0] 109)).heap[w.heap.size]?=some (.cells #[.string ⟨#[]⟩,.bool false,.int .u64 0,.int .u64 0,.int .u32 0,.bool false,.bool false,.bool false,.slice none 0 0,.slice none 0 0,.int .i64 0,.int .u64 0,.string ⟨#[]⟩,.slice none 0 0,.slice none 0 0] 109 (0,0)):=heap_alloc_new _ _;have hM0:=hM.nil' hw0;have hk0: ∀W,ai [] (w.alloc (.cells #[.string ⟨#[]⟩,.bool false,.int .u64 0,.int .u64 0,.int .u32 0,.bool false,.bool false,.bool false,.slice none 0 0,.slice none 0 0,.int .i64 0,.int .u64 0,.string ⟨#[]⟩,.slice none 0 0,.slice none 0 0] 109)) W->W.cell? ⟨kb,0,none⟩=some (.string key):=fun W ho=>((hw0.trans ho).cell (block_lt_of_cell hk) (by simp)).trans hk
 have cP:=fun m W (ho:ai [] (w.alloc (.cells #[.string ⟨#[]⟩,.bool false,.int .u64 0,.int .u64 0,.int .u32 0,.bool false,.bool false,.bool false,.slice none 0 0,.slice none 0 0,.int .i64 0,.int .u64 0,.string ⟨#[]⟩,.slice none 0 0,.slice none 0 0] 109)) W)=>J6 m key kb W (hk0 W ho)
 have hb0:=fun W (ho:ai [] (w.alloc (.cells #[.string ⟨#[]⟩,.bool false,.int .u64 0,.int .u64 0,.int .u32 0,.bool false,.bool false,.bool false,.slice none 0 0,.slice none 0 0,.int .i64 0,.int .u64 0,.string ⟨#[]⟩,.slice none 0 0,.slice none 0 0] 109)) W)=>UZ (ho.heap hrow (by simp))
 change Hid _ at cP hb0;replace hM0:=af hM0;replace hw0:=af hw0;clear hrow hk0 hk hM;go_enter Tryz.func320,Tryz.ntmps320
 go_wp2_with fail
 go_loopg[11] M.length (fun g s11 wr=> ∃(k:Nat),k<=M.length/\g=M.length-k/\s11=.int .i64 k/\Aside (ai [] (w.alloc (.cells #[.string ⟨#[]⟩,.bool false,.int .u64 0,.int .u64 0,.int .u32 0,.bool false,.bool false,.bool false,.slice none 0 0,.slice none 0 0,.int .i64 0,.int .u64 0,.string ⟨#[]⟩,.slice none 0 0,.slice none 0 0] 109)) wr/\ ∀j m,j<k->M[j]?=some m->(m.name==key)=false))
 case atStart=>exact⟨0,by omega,by omega,rfl,ai.refl _ _,fun j m hj=>by omega⟩
 case round=>
  obtain⟨k,hk,rfl,rfl,hO,h0⟩:=hrel;have k0:(0:Int)<=k:=by omega
  by_cases hlt:k<M.length
  ·have k1:(k:Int)<M.length:=by omega
   have hwk:IntKind.i64.wrap ((k:Int)+1)=(k:Int)+1:=IntWalk.i64_in _ (by omega);obtain⟨b,o,rfl,hb,hwf,hc⟩:=(hM0.out.nil' hO).met hlt;have hx:=List.getElem?_eq_getElem hlt;have hsm:=Az (nm:=key) hlt h0;generalize M[k]=x at hc hwf hx hsm;have hn:(x.name==key)=(x.name.toList==key.toList):=FB _ _;have MZ:=fun(W:World) (hW:ai [] (w.alloc (.cells #[.string ⟨#[]⟩,.bool false,.int .u64 0,.int .u64 0,.int .u32 0,.bool false,.bool false,.bool false,.slice none 0 0,.slice none 0 0,.int .i64 0,.int .u64 0,.string ⟨#[]⟩,.slice none 0 0,.slice none 0 0] 109)) W)=>cP.out x W hW
   have YP:Fz wr b (o+k*15) x:=hc;clear hc;have hnext:(x.name==key)=false-> ∀j m,j<k+1->M[j]?=some m->(m.name==key)=false:=fun h j m hj hm=>by
    rcases Nat.lt_or_ge j k with h3|h3
    ·exact h0 j m h3 hm
    ·obtain rfl:j=k:=by omega
     rw[hx]at hm;cases hm;exact h
   obtain⟨nm,hs,al,ti,ty,yL,tr,nu,⟨x1,y1,z1⟩,⟨x2,y2,z2⟩,vk,vn,vs,⟨x3,y3,z3⟩,⟨x4,y4,z4⟩⟩:=x;simp only[bP.val,bP.cells]at MZ hn hsm hnext;have BN:=hO.alloc (.cells #[.string nm,.bool hs,.int .u64 al,.int .u64 ti,.int .u32 ty,.bool yL,.bool tr,.bool nu,.slice x1 y1 z1,.slice x2 y2 z2,.int .i64 vk,.int .u64 vn,.string vs,.slice x3 y3 z3,.slice x4 y4 z4] 109);obtain⟨c0,c1,c2,c3,c4,c5,c6,c7,c8,c9,c10,c11,c12,c13,c14⟩:=Fz.all YP;change Hid _ at MZ hO h0;have Eo:=af (MZ.out _ BN);obtain⟨⟨r0,r1,r2,r3,r4,r5,r6,r7,r8,r9,M0,M4,MB,M5,M6⟩,f0,f1,f2,f3,f4,f5,f6,f7,f8,f9,f10,f11,f12,f13,f14⟩:=hb0.out _ (BN.alloc (.cells #[.string nm,.bool hs,.int .u64 al,.int .u64 ti,.int .u32 ty,.bool yL,.bool tr,.bool nu,.slice x1 y1 z1,.slice x2 y2 z2,.int .i64 vk,.int .u64 vn,.string vs,.slice x3 y3 z3,.slice x4 y4 z4] 109));have o6:=BN.alloc (.cells #[.string nm,.bool hs,.int .u64 al,.int .u64 ti,.int .u32 ty,.bool yL,.bool tr,.bool nu,.slice x1 y1 z1,.slice x2 y2 z2,.int .i64 vk,.int .u64 vn,.string vs,.slice x3 y3 z3,.slice x4 y4 z4] 109);change Hid _ at BN o6;clear MZ YP hx hwf;cases hq:(nm.toList==key.toList)
   ·rw[hq]at Eo hn
    replace hnext:=af (hnext hn);clear hn hsm hq;go_wp2_with(go_at_call 321;(with_reducible refine Eo.out.mono ?_);rintro e w2 ⟨rfl,rfl⟩)
    go_roundg(M.length-(k+1))
    case measure=>omega
    case rel=>exact⟨k+1,by omega,rfl,by simp,o6.out,hnext.out⟩
   ·rw[hq]at Eo hn
    replace hsm:=af (hsm hn);clear hn hnext hq;go_wp2_with(go_at_call 321;(with_reducible refine Eo.out.mono ?_);rintro e w2 ⟨rfl,rfl⟩)
    unfold kz;rw[hsm.out];exact bodyPost_ret (v:=.tuple #[.agg #[.string nm,.bool hs,.int .u64 al,.int .u64 ti,.int .u32 ty,.bool yL,.bool tr,.bool nu,.slice x1 y1 z1,.slice x2 y2 z2,.int .i64 vk,.int .u64 vn,.string vs,.slice x3 y3 z3,.slice x4 y4 z4],.bool true]) (by simp[results,Tryz.results320,go_sem,r0,r1,r2,r3,r4,r5,r6,r7,r8,r9,M0,M4,MB,M5,M6]) rfl ⟨rfl,IB (hw0.out.trans o6.out) (.inr (Nat.le_refl _))⟩
  ·have k1: ¬(k:Int)<M.length:=by omega
   have hsm:=AA (M:=M) (nm:=key) (fun j m hj hm=>h0 j m (by omega) hm);obtain⟨⟨r0,r1,r2,r3,r4,r5,r6,r7,r8,r9,M0,M4,MB,M5,M6⟩,f0,f1,f2,f3,f4,f5,f6,f7,f8,f9,f10,f11,f12,f13,f14⟩:=hb0.out _ (hO.alloc (.cells #[.string ⟨#[]⟩,.bool false,.int .u64 0,.int .u64 0,.int .u32 0,.bool false,.bool false,.bool false,.slice none 0 0,.slice none 0 0,.int .i64 0,.int .u64 0,.string ⟨#[]⟩,.slice none 0 0,.slice none 0 0] 109));have o6:=af (hO.alloc (.cells #[.string ⟨#[]⟩,.bool false,.int .u64 0,.int .u64 0,.int .u32 0,.bool false,.bool false,.bool false,.slice none 0 0,.slice none 0 0,.int .i64 0,.int .u64 0,.string ⟨#[]⟩,.slice none 0 0,.slice none 0 0] 109));change Hid _ at hO h0 hsm;go_wp2_with fail
   unfold kz;rw[hsm.out];exact bodyPost_ret (v:=.tuple #[.agg #[.string ⟨#[]⟩,.bool false,.int .u64 0,.int .u64 0,.int .u32 0,.bool false,.bool false,.bool false,.slice none 0 0,.slice none 0 0,.int .i64 0,.int .u64 0,.string ⟨#[]⟩,.slice none 0 0,.slice none 0 0],.bool false]) (by simp[results,Tryz.results320,go_sem,r0,r1,r2,r3,r4,r5,r6,r7,r8,r9,M0,M4,MB,M5,M6]) rfl ⟨rfl,IB (hw0.out.trans o6.out) (.inr (Nat.le_refl _))⟩
theorem J7(q:gT)(M7:ByteArray)(w:World)(hM:dR w q.a q.M):Calls Tryz.prog 292 #[q.val,.string M7] w (kz q.M M7 w):=by
 obtain⟨t,h,s,u,b,a,M,c⟩:=q;unfold gT.val;simp only at hM⊢;have aH:ai [] w (((w.alloc (.cells #[.int .u64 t,.bool h,.int .u64 s,.string u,.string b,.slice a M.length c] 54)).alloc (.cells #[.string M7] 9)).alloc (.cells #[.string ⟨#[]⟩,.bool false,.int .u64 0,.int .u64 0,.int .u32 0,.bool false,.bool false,.bool false,.slice none 0 0,.slice none 0 0,.int .i64 0,.int .u64 0,.string ⟨#[]⟩,.slice none 0 0,.slice none 0 0] 109)):=(((ai.refl _ _).alloc _).alloc _).alloc _;have hk:(((w.alloc (.cells #[.int .u64 t,.bool h,.int .u64 s,.string u,.string b,.slice a M.length c] 54)).alloc (.cells #[.string M7] 9)).alloc (.cells #[.string ⟨#[]⟩,.bool false,.int .u64 0,.int .u64 0,.int .u32 0,.bool false,.bool false,.bool false,.slice none 0 0,.slice none 0 0,.int .i64 0,.int .u64 0,.string ⟨#[]⟩,.slice none 0 0,.slice none 0 0] 109)).cell? ⟨w.heap.size+1,0,none⟩=some (.string M7):=by
  refine cell_of_row _ (w.heap.size+1) 0 #[.string M7] 9 (0,0) ?_;rw[Below.heap_alloc _ _ _ (by simp)];have:=heap_alloc_new (w.alloc (.cells #[.int .u64 t,.bool h,.int .u64 s,.string u,.string b,.slice a M.length c] 54)) (.cells #[.string M7] 9);simpa using this
 have hr:(((w.alloc (.cells #[.int .u64 t,.bool h,.int .u64 s,.string u,.string b,.slice a M.length c] 54)).alloc (.cells #[.string M7] 9)).alloc (.cells #[.string ⟨#[]⟩,.bool false,.int .u64 0,.int .u64 0,.int .u32 0,.bool false,.bool false,.bool false,.slice none 0 0,.slice none 0 0,.int .i64 0,.int .u64 0,.string ⟨#[]⟩,.slice none 0 0,.slice none 0 0] 109)).heap[w.heap.size+1+1]?=some (.cells #[.string ⟨#[]⟩,.bool false,.int .u64 0,.int .u64 0,.int .u32 0,.bool false,.bool false,.bool false,.slice none 0 0,.slice none 0 0,.int .i64 0,.int .u64 0,.string ⟨#[]⟩,.slice none 0 0,.slice none 0 0] 109 (0,0)):=by
  have:=heap_alloc_new ((w.alloc (.cells #[.int .u64 t,.bool h,.int .u64 s,.string u,.string b,.slice a M.length c] 54)).alloc (.cells #[.string M7] 9)) (.cells #[.string ⟨#[]⟩,.bool false,.int .u64 0,.int .u64 0,.int .u32 0,.bool false,.bool false,.bool false,.slice none 0 0,.slice none 0 0,.int .i64 0,.int .u64 0,.string ⟨#[]⟩,.slice none 0 0,.slice none 0 0] 109);simpa using this
 have cF:=FC a M c M7 (w.heap.size+1) _ (hM.nil' aH) hk;have hb:=fun W (ho:ai [] (((w.alloc (.cells #[.int .u64 t,.bool h,.int .u64 s,.string u,.string b,.slice a M.length c] 54)).alloc (.cells #[.string M7] 9)).alloc (.cells #[.string ⟨#[]⟩,.bool false,.int .u64 0,.int .u64 0,.int .u32 0,.bool false,.bool false,.bool false,.slice none 0 0,.slice none 0 0,.int .i64 0,.int .u64 0,.string ⟨#[]⟩,.slice none 0 0,.slice none 0 0] 109)) W)=>UZ (ho.heap hr (by simp))
 have hz:w.heap.size<=w.heap.size+1+1:=by omega
 unfold kz at cF⊢;change Hid _ at hb;replace aH:=af aH;clear hk hr hM;cases hf:eZ M M7 with
 |none=>
  simp only[hf]at cF;unfold bP.val bP.cells bP.zero at cF⊢;replace cF:=af cF;clear hf;go_enter Tryz.func292,Tryz.ntmps292
  go_wp2_with(go_at_call 320;refine cF.out.mono ?_;rintro e w2 ⟨rfl,hO2⟩;obtain⟨⟨r0,r1,r2,r3,r4,r5,r6,r7,r8,r9,M0,M4,MB,M5,M6⟩,f0,f1,f2,f3,f4,f5,f6,f7,f8,f9,f10,f11,f12,f13,f14⟩:=hb.out _ hO2;replace hO2:=af hO2)
  exact bodyPost_ret (v:=.tuple #[.agg #[.string ByteArray.empty,.bool false,.int .u64 0,.int .u64 0,.int .u32 0,.bool false,.bool false,.bool false,.slice none 0 0,.slice none 0 0,.int .i64 0,.int .u64 0,.string ByteArray.empty,.slice none 0 0,.slice none 0 0],.bool false]) (by simp[results,Tryz.results292,go_sem,r0,r1,r2,r3,r4,r5,r6,r7,r8,r9,M0,M4,MB,M5,M6]) rfl ⟨rfl,IB (aH.out.trans hO2.out) (.inr hz)⟩
 |some m=>
  simp only[hf]at cF;obtain⟨nm,hs,al,ti,ty,yL,tr,nu,⟨x1,y1,z1⟩,⟨x2,y2,z2⟩,vk,vn,vs,⟨x3,y3,z3⟩,⟨x4,y4,z4⟩⟩:=m;unfold bP.val bP.cells at cF;replace cF:=af cF;clear hf;go_enter Tryz.func292,Tryz.ntmps292
  go_wp2_with(go_at_call 320;refine cF.out.mono ?_;rintro e w2 ⟨rfl,hO2⟩;obtain⟨⟨r0,r1,r2,r3,r4,r5,r6,r7,r8,r9,M0,M4,MB,M5,M6⟩,f0,f1,f2,f3,f4,f5,f6,f7,f8,f9,f10,f11,f12,f13,f14⟩:=hb.out _ hO2;replace hO2:=af hO2)
  exact bodyPost_ret (v:=.tuple #[.agg #[.string nm,.bool hs,.int .u64 al,.int .u64 ti,.int .u32 ty,.bool yL,.bool tr,.bool nu,.slice x1 y1 z1,.slice x2 y2 z2,.int .i64 vk,.int .u64 vn,.string vs,.slice x3 y3 z3,.slice x4 y4 z4],.bool true]) (by simp[results,Tryz.results292,go_sem,r0,r1,r2,r3,r4,r5,r6,r7,r8,r9,M0,M4,MB,M5,M6]) rfl ⟨rfl,IB (aH.out.trans hO2.out) (.inr hz)⟩
theorem CG{M:List bP}{nm:ByteArray}{m:bP}(h:eZ M nm=some m):m∈M:=List.mem_of_find?_eq_some h
theorem IC(q:gT)(w:World)(hM:dR w q.a q.M):Calls Tryz.prog 258 #[q.val] w fun e w'=>e=.returned (.tuple #[.int .i64 q.bd.1,.bool q.bd.2])/\ai [] w w':=by
 have aH:ai [] w (w.alloc (.cells #[.int .u64 q.t,.bool q.h,.int .u64 q.s,.string q.u,.string q.b,.slice q.a q.M.length q.c] 54)):=(ai.refl _ _).alloc _;have cF:=J7 q pR _ (hM.nil' aH);have hwf:=fun m (h:eZ q.M pR=some m)=>hM.all_good m (CG h)
 unfold gT.bd;obtain⟨t,h,s,u,b,a,M,c⟩:=q;unfold gT.val at cF⊢;simp only at hM cF hwf aH⊢;unfold kz at cF;unfold pR at*;replace aH:=af aH;clear hM;cases hf:eZ M ⟨#[98,100,83,101,113]⟩with
 |none=>
  simp only[hf]at cF;unfold bP.val bP.cells bP.zero at cF;replace cF:=af cF;clear hf hwf;go_enter Tryz.func258,Tryz.ntmps258
  go_wp2_with(go_at_call 292;refine cF.out.mono ?_;rintro e w2 ⟨rfl,hO2⟩;replace hO2:=af (aH.out.trans hO2))
  go_ret2
  exact⟨rfl,hO2.out.alloc _⟩
 |some m=>
  have hm:=hwf m hf;simp only[hf]at cF;obtain⟨nm,hs,al,ti,ty,yL,tr,nu,⟨x1,y1,z1⟩,⟨x2,y2,z2⟩,vk,vn,vs,⟨x3,y3,z3⟩,⟨x4,y4,z4⟩⟩:=m;obtain⟨_,_,_,_,_,_,hn0,hn1⟩:=hm;simp only at hn0 hn1⊢;have cS:=fun W=>xw vn W hn0
  generalize mh vn=r at cS⊢;obtain⟨r1,r2⟩:=r;unfold bP.val bP.cells at cF;change Hid _ at cS;replace cF:=af cF;clear hf hwf hn0 hn1;cases nu with
  |true=>
   simp only[if_true];go_enter Tryz.func258,Tryz.ntmps258
   go_wp2_with(go_at_call 292;refine cF.out.mono ?_;rintro e w2 ⟨rfl,hO2⟩;replace hO2:=af (aH.out.trans hO2))
   go_ret2
   exact⟨rfl,hO2.out.alloc _⟩
  |false=>
   simp only[Bool.false_eq_true,if_false];by_cases h1:vk=1
   ·rw[if_pos (.inl h1)]
    subst h1;go_enter Tryz.func258,Tryz.ntmps258
    go_wp2_with(first
     |(go_at_call 292;refine cF.out.mono ?_;rintro e w2 ⟨rfl,hO2⟩;replace hO2:=af (aH.out.trans hO2))
     |(go_at_call 293;refine(cS.out _).mono ?_;rintro e w3 ⟨rfl,rfl⟩))
    go_ret2
    exact⟨rfl,hO2.out.alloc _⟩
   ·have k1:(vk==1)=false:=by simpa using h1
    by_cases h2:vk=2
    ·rw[if_pos (.inr h2)]
     subst h2;go_enter Tryz.func258,Tryz.ntmps258
     go_wp2_with(first
      |(go_at_call 292;refine cF.out.mono ?_;rintro e w2 ⟨rfl,hO2⟩;replace hO2:=af (aH.out.trans hO2))
      |(go_at_call 293;refine(cS.out _).mono ?_;rintro e w3 ⟨rfl,rfl⟩))
     go_ret2
     exact⟨rfl,hO2.out.alloc _⟩
    ·have k2:(vk==2)=false:=by simpa using h2
     rw[if_neg (fun x=>x.elim h1 h2)];go_enter Tryz.func258,Tryz.ntmps258
     go_wp2_with(go_at_call 292;refine cF.out.mono ?_;rintro e w2 ⟨rfl,hO2⟩;replace hO2:=af (aH.out.trans hO2))
     go_ret2
     exact⟨rfl,hO2.out.alloc _⟩
end Go.Proofs.YtedcakchekaemaaGreatDoor
