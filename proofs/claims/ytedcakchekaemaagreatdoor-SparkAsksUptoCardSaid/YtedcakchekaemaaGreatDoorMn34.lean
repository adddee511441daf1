import Derived.Test.YtedcakchekaemaaGreatDoorMn33
import Derived.Test.YtedcakchekaemaaGreatDoorMn32
import Derived.Sort.Grow
set_option maxRecDepth 100000
set_option maxHeartbeats 16000000
set_option linter.all false
namespace Go.Proofs.YtedcakchekaemaaGreatDoor
open Go.RowKit
variable [Kd]
def vL(x:ByteArray×ByteArray):List Value:=[.string x.1,.string x.2]
theorem Bj:(Tryz.prog.info? 43).map (fun i=>(i.zero,i.size,i.bytes))=some (some (.agg #[.string ⟨#[]⟩,.string ⟨#[]⟩]),2,32):=by kernel_rfl
theorem Bl:je Tryz.prog 41 43 vL 2 32 where
 ut:=Tryz.underlying41
 info:=by obtain⟨i,h1,h2,h3,h4⟩:=info_parts Bj;exact⟨i,_,h1,h2,h3,h4,rfl⟩
 pos:=by omega
 len:=fun _=>rfl
 one x u hu:=by simp only[vL,List.mem_cons,List.not_mem_nil,or_false]at hu;rcases hu with rfl|rfl<;>rfl
def oZ(x:Bi):ByteArray×ByteArray:=(xK x,x.t)
theorem O9(t:ByteArray)(w:World):Calls Tryz.prog 67 #[.string t] w fun e w'=>e=.returned (.bool true)/\w=w':=by
 go_enter Tryz.func67,Tryz.ntmps67
 go_wp2_with fail
 go_ret
 exact⟨rfl,rfl⟩
structure ThJ (w wr:World) (L:List Bi) (k:Nat) (v:Value):Prop where
 own:ai [] w wr
 so:Sl 43 vL 2 w.heap.size wr v ((L.take k).map oZ)
theorem KS(b:Nat)(v:Value)(L:List Bi)(w:World)(h:jQ w b v L):
  Calls Tryz.prog 66 #[aK b,.func (.func 67) #[] #[]] w fun e w'=> ∃v',e=.returned v'/\Sl 43 vL 2 w.heap.size w' v' (L.map oZ)/\ai [] w w':=by
 have cN:=xV b w h.cells.2.1;obtain⟨va,vc,rfl⟩:=h.l.sl;obtain⟨c0,c1,_⟩:=h.cells;have sG:=af (h.l.reads dm);have UC:=af h.few;have cP:=af O9;have cT:=af OX;replace cN:=af cN;clear h;go_enter Tryz.func66,Tryz.ntmps66
 go_wp2_with(go_at_call 114;((with_reducible refine cN.out.mono ?_);rintro e w2 ⟨rfl,rfl⟩))
 clear c0 c1 cN;go_loopg[5,16] L.length (fun gg s5 s16 wr=> ∃(k:Nat) (v:Value),k<=L.length/\gg=L.length-k/\s5=v/\s16=.int .i64 k/\Aside (ThJ w wr L k v))
 case atStart=>exact⟨0,_,by omega,by omega,rfl,rfl,ai.refl _ _,by simpa using Sl.nil _ _ _⟩
 case round=>
  obtain⟨k,v,hk,rfl,rfl,rfl,hJ⟩:=hrel;have k0:(0:Int)<=k:=by omega
  have hS:=hJ.so;have hnl:((L.take k).map oZ).length=k:=by rw[List.length_map,List.length_take];omega
  by_cases hlt:k<L.length
  ·have k1:(k:Int)<L.length:=by omega
   have hwk:IntKind.i64.wrap ((k:Int)+1)=(k:Int)+1:=IntWalk.i64_in _ (by have:=UC.out;omega);obtain⟨b1,o1,rfl,x0,x1,x2⟩:=(sG.out.nil' hJ.own).biAt hlt;have hnx:(L.take (k+1)).map oZ=(L.take k).map oZ++[oZ L[k]]:=by rw[List.take_succ_eq_append_getElem hlt,List.map_append];rfl
   generalize L[k]=y at*;have hA:=(ai.refl [] wr).alloc (.cells (bK y).toArray 227);have hby:=heap_alloc_new wr (.cells (bK y).toArray 227);have X3:=cT.out y (wr.alloc (.cells (bK y).toArray 227));obtain⟨y0,y1,y2⟩:=y;unfold OW at X3;rw[show oZ ⟨y0,y1,y2⟩=(xK ⟨y0,y1,y2⟩,y2)from rfl]at hnx;generalize xK ⟨y0,y1,y2⟩=tp at*;unfold bK at*;simp only at x0 x1 x2 X3 hA hby hnx;have d0:=cell_of_row _ _ 0 _ _ _ hby;have d1:=cell_of_row _ _ 1 _ _ _ hby;have d2:=cell_of_row _ _ 2 _ _ _ hby;obtain⟨sa,sc,rfl⟩:=hS.sl;generalize((L.take k).map oZ)=LT at*;have hl1:=af (show(LT.length+1)*32<=140737488355328 by have:=UC.out;omega);have hl2:=af (show LT.length+1<=maxLen by have:=UC.out;unfold maxLen;omega);replace X3:=af X3;replace hS:=af hS;replace hA:=af (hJ.own.trans hA);have hAr:=af ((ai.refl [] wr).alloc (.cells #[.string y0,.string y1,.string y2] 227));have uy:=af hJ.own.size;change Hid _ at hnx;clear hJ hby hnl;go_wp2_with fail
   refine X3.out.mono ?_;rintro e w3 ⟨rfl,hO3⟩;have vD:=(ai.refl [] w3).alloc (.cells #[.string tp,.string y2] 43);have hb4:=heap_alloc_new w3 (.cells #[.string tp,.string y2] 43);have hO4:=af ((hA.out.trans hO3).trans vD);have HZ:=af (((hS.out.nil' hAr.out).nil' hO3).nil' vD);obtain⟨⟨e0,e1⟩,_⟩:=Gf hb4;clear X3 hO3 vD d0 d1 d2 x0 x1 x2 hS;go_upto_region 8 with(fail)
   generalize(w3.alloc (.cells #[.string tp,.string y2] 43))=w4 at*;generalize w3.heap.size=yb at*;go_wp2_with fail
   refine(cP.out tp w4).mono ?_;rintro e w5 ⟨rfl,rfl⟩;have mX:=af (aA.new (enc:=vL) (T:=43) w4 (tp,y2) 1);have hS5:=af (HZ.out.nil' ((ai.refl [] w4).alloc (.cells #[.string tp,.string y2] 43)));have aB:=af (hO4.out.trans ((ai.refl [] w4).alloc (.cells #[.string tp,.string y2] 43)));simp only[vL]at mX;clear hb4 HZ;go_wp2_with(at_builtin;refine aO rfl (.tmp 26) (.tmp 28) rfl Bl (jy _) rfl hS5.out.bare rfl mX.out (by have hq:=hl1.out;simp only[List.length_singleton];exact hq) (by have hq:=hl2.out;simp only[List.length_singleton];exact hq) ?_;intro va9 w9 wI _ _ Zo Zp;obtain⟨aa,ca9,rfl⟩:=wI.sl;have abY:=af (wI.up (base:=w.heap.size) (fun g hg=>by rcases Zo g hg with h4|h4;exact(hS5.out.block h4).1;exact Nat.le_trans aB.out.size h4));have o7:=af (aB.out.trans' Zp (fun x hx=>.inr (hS5.out.block (Option.mem_toList.1 hx)).1));clear wI Zo Zp)
   go_roundg(L.length-(k+1))
   case measure=>omega
   case rel=>exact⟨k+1,_,by omega,rfl,rfl,by simp,o7.out,by have hh:=abY.out;rw[List.length_append]at hh;rw[hnx.out];exact hh⟩
  ·have k1: ¬(k:Int)<L.length:=by omega
   rw[List.take_of_length_le (by omega)]at hS hnl;have hO:=af hJ.own;obtain⟨sa,sc,rfl⟩:=hS.sl;rw[List.length_map]at hS⊢;replace hS:=af hS;clear hJ hnl;go_wp2_with fail
   go_ret
   exact⟨_,rfl,hS.out,hO.out⟩
theorem Pb(b:Nat)(v:Value)(L:List Bi)(w:World)(h:jQ w b v L):
  Calls Tryz.prog 31 #[aK b] w fun e w'=> ∃v',e=.returned v'/\Sl 43 vL 2 w.heap.size w' v' (L.map oZ)/\ai [] w w':=by
 have cT:=KS b v L w h;generalize L.map oZ=LT at*;replace cT:=af cT;clear h;go_enter Tryz.func31,Tryz.ntmps31
 go_wp2_with fail
 refine cT.out.mono ?_;rintro e w2 ⟨v2,rfl,hS,hO⟩;obtain⟨sa,sc,rfl⟩:=hS.sl;change Hid _ at hS hO;clear cT;go_wp2_with fail
 go_ret
 exact⟨_,rfl,hS.out,hO.out⟩
end Go.Proofs.YtedcakchekaemaaGreatDoor
namespace Go.Proofs.YtedcakchekaemaaGreatDoor
open Go.RowKit
def bW(g n:ByteArray):ByteArray:=g++⟨#[47]⟩++n
theorem Ct(g n:ByteArray)(hg:g.size<=1048576)(hn:n.size<=1048576)(w:World):Calls Tryz.prog 101 #[.agg #[.string g,.string n]] w fun e w'=>e=.returned (.string (bW g n))/\ai [] w w':=by
 have aH:ai [] w (w.alloc (.cells #[.string g,.string n] 87)):=(ai.refl _ _).alloc _;have hb:=heap_alloc_new w (.cells #[.string g,.string n] 87);have c0:(w.alloc (.cells #[.string g,.string n] 87)).cell? ⟨w.heap.size,0,none⟩=some (.string g):=by rw[cell_of_row _ _ _ _ _ _ hb];rfl
 have c1:(w.alloc (.cells #[.string g,.string n] 87)).cell? ⟨w.heap.size,1,none⟩=some (.string n):=by rw[cell_of_row _ _ _ _ _ _ hb];rfl
 have i1: ¬9223372036854775807<g.size+1:=by omega
 have i2: ¬9223372036854775807<g.size+1+n.size:=by omega
 have i3: ¬9223372036854775807<(g++⟨#[47]⟩).size+n.size:=by
  rw[ByteArray.size_append];show¬9223372036854775807<g.size+1+n.size;omega
 go_enter Tryz.func101,Tryz.ntmps101
 go_wp2_with fail
 go_ret
 exact⟨rfl,aH⟩
theorem Rx(p b r m h bb:Nat)(gap asked:Int)(B:List Nat)(l:gN)(x:sI)(w:World)(hx:aQ w b x)(hR:ni w r gap B l)
  (hp:w.heap[p]?=some (.cells #[.map (some m),aK h,aK bb,aK r,.int .i64 asked] 73 (0,0)))(hc:3<=x.code)(h0:0<=asked)(h1:asked<1000000)(hpb:p≠b)(XQ:p∉B)(YM:b∉B)
  (hg:x.s.g.size<=1048576)(hn:x.s.n.size<=1048576)(hm:oC l gap (bW x.s.g x.s.n) x.at'=true):Calls Tryz.prog 58 #[aK p,aK b] w fun e w'=>
   e=.returned (.bool false)/\ai (b::p::B) w w'/\aQ w' b {x with ask:=true}/\w'.heap[p]?=some (.cells #[.map (some m),aK h,aK bb,aK r,.int .i64 (asked+1)] 73 (0,0)):=by
 have cA:=af (fun W (hR:ni W r gap B l)=>Iw r gap B l (bW x.s.g x.s.n) x.at' W hR);have cT:=af (Ct x.s.g x.s.n hg hn);have hS:Hid (∀W',ai B w W'->W'.cell? ⟨b,10,none⟩=some (.int .i64 x.code)/\W'.cell? ⟨b,6,none⟩=some (.string x.s.g)/\W'.cell? ⟨b,7,none⟩=some (.string x.s.n)/\W'.cell? ⟨b,0,none⟩=some (.int .i64 x.at')/\W'.cell? ⟨p,3,none⟩=some (aK r)):=af (fun W' ho=>by
  obtain⟨e0,e1,e2,e3,e4,e5,e6,e7,e8,e9,e10,e11,e12,e13⟩:=bE (hx.own ho YM);have q:=ho.heap hp XQ;exact⟨e10,e6,e7,e0,by rw[cell_of_row _ _ _ _ _ _ q];rfl⟩)
 have hS0:=hS.out w (ai.refl _ _);obtain⟨s1,s2,s3,s4,s5⟩:=hS0;go_enter Tryz.func58,Tryz.ntmps58
 go_wp2_with fail
 have hcc:(decide (3<=x.code))=true:=by simpa using hc
 have hw:ai B w w:=ai.refl _ _;have hwd:ai B w w.drew:=hw.drew;have kW:=hS.out _ hwd;go_region_held3(fun W'=>W'.cell? ⟨b,10,none⟩=some (.int .i64 x.code)/\W'.cell? ⟨b,6,none⟩=some (.string x.s.g)/\W'.cell? ⟨b,7,none⟩=some (.string x.s.n)/\W'.cell? ⟨b,0,none⟩=some (.int .i64 x.at')/\W'.cell? ⟨p,3,none⟩=some (aK r)) (first|with_reducible exact kB|with_reducible exact kA|with_reducible exact kW|go_keep)
  ((first
    |(go_at_call 101;(with_reducible refine(cT.out _).mono ?_);rintro e w2 ⟨rfl,hO2⟩;have mR:ai B w w2:=(by first|exact hO2.nil|exact hwd.trans hO2.nil);have kA:=hS.out _ mR;have hR2:=hR.nil (by first|exact hO2|exact((ai.refl [] w).drew).trans hO2))
    |(go_at_call 100;(with_reducible refine(cA.out _ hR2).mono ?_);rintro e w3 ⟨rfl,B',eP,hO3,hB3⟩;have dO:=mR.trans hO3;have kB:=hS.out _ dO)))
 all_goals
  have ji:=hx.own dO YM;have hp3:=dO.heap hp XQ;have c13:=(bE ji).2.2.2.2.2.2.2.2.2.2.2.2.2;have z13:=frozen_of_row _ b 13 _ _ ji;have jN:aQ (w3.setCell ⟨b,13,none⟩ (.bool true)) b {x with ask:=true}:=by
   have:=heap_setCell_same _ b 13 _ _ (.bool true) ji;simpa[aQ]using this
  have hO4:ai [b] w3 (w3.setCell ⟨b,13,none⟩ (.bool true)):=(ai.refl [b] w3).setCell (.inl (by simp)) _;have za:=hO4.heap hp3 (by simpa using hpb);have p4:(w3.setCell ⟨b,13,none⟩ (.bool true)).cell? ⟨p,4,none⟩=some (.int .i64 asked):=by rw[cell_of_row _ _ _ _ _ _ za];rfl
  have z4:=frozen_of_row _ p 4 _ _ za;have aB:ai [p] (w3.setCell ⟨b,13,none⟩ (.bool true)) ((w3.setCell ⟨b,13,none⟩ (.bool true)).setCell ⟨p,4,none⟩ (.int .i64 (asked+1))):=(ai.refl [p] _).setCell (.inl (by simp)) _;have iF:=jN.own aB (by simpa using hpb.symm);have WA:=heap_setCell_same _ p 4 _ _ (.int .i64 (asked+1)) za;have YN:ai (b::p::B) w ((w3.setCell ⟨b,13,none⟩ (.bool true)).setCell ⟨p,4,none⟩ (.int .i64 (asked+1))):=
   ((dO.mono (by intro y hy;simp[hy])).trans (hO4.mono (by simp))).trans (aB.mono (by simp))
  have hwr:IntKind.wrap .i64 (asked+1)=asked+1:=by rw[IntKind.wrap_i64];omega
  go_wp2_with fail
  go_ret
  refine⟨rfl,YN,iF,?_⟩;simpa using WA
def lK(k:ByteArray×ByteArray):Value:=.agg #[.string k.1,.string k.2]
theorem Cm(a b:ByteArray×ByteArray)(h:lK a=lK b):a=b:=by
 unfold lK at h;simp at h;exact Prod.ext h.1 h.2
theorem wZ{l:List Field}{a b:String×TypeId×Nat}(h:l.map (fun f=>(f.name,f.type,f.offset))=[a,b]):
  ∃f g:Field,l=[f,g]/\f.name=a.1/\f.type=a.2.1/\f.offset=a.2.2/\g.name=b.1/\g.type=b.2.1/\g.offset=b.2.2:=by
 match l,h with
 | [f,g],h=>
   simp only[List.map_cons,List.map_nil,List.cons.injEq,and_true]at h;obtain⟨rfl,rfl⟩:=h;exact⟨f,g,rfl,rfl,rfl,rfl,rfl,rfl,rfl⟩
section
variable {P : Program} {t st : TypeId} {n1 n2 : String}
theorem rT(hs:P.plainKey st=true)(w:World)(a:ByteArray×ByteArray):(part st #[.string a.1,.string a.2] 0).run P w=.ok (.string a.1) w/\(part st #[.string a.1,.string a.2] 1).run P w=.ok (.string a.2) w:=
 ⟨run_part_plain w hs rfl,run_part_plain w hs rfl⟩
theorem Fa(hf:(P.fieldsOf t).toList.map (fun f=>(f.name,f.type,f.offset))=[(n1,st,0),(n2,st,1)])(m1:n1≠ "_")(m2:n2≠ "_")(hu:P.underlying t=some (.struct (P.fieldsOf t)))(hst:P.stoodInHeld t=false)(XP:P.underlying st=some .string)(hs:P.plainKey st=true)
  (w:World)(a b:ByteArray×ByteArray):(Op.equal t (lK a) (lK b)).run P w=.ok (a==b) w:=by
 obtain⟨f,g,hl,e1,t1,o1,e2,t2,o2⟩:=wZ hf;have h:=run_equalIn_struct (P:=P) w 9999 t #[.string a.1,.string a.2] #[.string b.1,.string b.2] hu hst;show(Op.equalIn (9999+1) t (.agg #[.string a.1,.string a.2]) (.agg #[.string b.1,.string b.2])).run P w=_;rw[h,hl];obtain⟨p1,p2⟩:=rT hs w a;obtain⟨q1,q2⟩:=rT hs w b;have se: ∀(a b:ByteArray),(Op.equalIn 9999 st (.string a) (.string b)).run P w=.ok (a==b) w:=fun a b=>by
  show(Op.equalIn (9998+1) st (.string a) (.string b)).run P w=_;rw[run_equalIn_string w 9998 st a b XP,beq_toListBytes]
 have s1:=se a.1 b.1;have s2:=se a.2 b.2;have hab:(a==b)=((a.1==b.1)&&(a.2==b.2)):=rfl;rw[hab];simp only at e1 t1 o1 e2 t2 o2;clear se hab h;generalize(a.1==b.1)=u at s1⊢;generalize(a.2==b.2)=v at s2⊢;simp only[Op.eqFields,e1,t1,o1,e2,t2,o2];simp only[m1,m2,ne_eq,not_false_eq_true,if_true,Sem.run_bind,p1,p2,q1,q2,s1,Result.andThen_ok];cases u<;>cases v<;>simp[p1,p2,q1,q2,s2,m2,Result.andThen_ok]
theorem Fb(hf:(P.fieldsOf t).toList.map (fun f=>(f.name,f.type,f.offset))=[(n1,st,0),(n2,st,1)])(hu:P.underlying t=some (.struct (P.fieldsOf t)))(XP:P.underlying st=some .string)(hs:P.plainKey st=true)
  (w:World)(em:Bool)(a:ByteArray×ByteArray):(Instr.checkKey em 10000 t (lK a)).run P w=.ok () w:=by
 obtain⟨f,g,hl,e1,t1,o1,e2,t2,o2⟩:=wZ hf;obtain⟨p1,p2⟩:=rT hs w a;have c: ∀s,(Instr.checkKey em 9999 st (.string s)).run P w=.ok () w:=fun s=>by
  show(Instr.checkKey em (9998+1) st (.string s)).run P w=.ok () w;rw[Instr.checkKey];simp only[Sem.run_bind,run_underlying XP,Result.andThen_ok];rfl
 show(Instr.checkKey em (9999+1) t (.agg #[.string a.1,.string a.2])).run P w=_;rw[Instr.checkKey];simp only[Sem.run_bind,run_underlying hu,Result.andThen_ok];rw[<-Array.forIn_toList,hl];simp only[List.forIn_cons,List.forIn_nil,e1,t1,o1,e2,t2,o2];by_cases m1:n1= "_" <;>by_cases m2:n2= "_" <;>simp[m1,m2,p1,p2,c,Result.andThen_ok]
theorem JS(hf:(P.fieldsOf t).toList.map (fun f=>(f.name,f.type,f.offset))=[(n1,st,0),(n2,st,1)])(m1:n1≠ "_")(m2:n2≠ "_")(hu:P.underlying t=some (.struct (P.fieldsOf t)))(hst:P.stoodInHeld t=false)(XP:P.underlying st=some .string)(hs:P.plainKey st=true):
  dV P t lK where
 find:=yO (by rw[hu]) (Fa hf m1 m2 hu hst XP hs)
 check:=Fb hf hu XP hs
 inj:=Cm
 stays w a:=by
  unfold lK;simp[Instr.keyThatStays,Instr.sameBits]
end
end Go.Proofs.YtedcakchekaemaaGreatDoor
namespace Go.Proofs.YtedcakchekaemaaGreatDoor
open Go.RowKit
def EH(w0 wr:World)(n:Nat)(g nm:ByteArray)(s:EN):Prop:= ∃L,au wr n g nm L s/\(∀x∈L.feet n,w0.heap.size<=x)/\ai [] w0 wr
theorem EH.nil'{w0 wr w':World}{n:Nat}{g nm:ByteArray}{s:EN}(h:EH w0 wr n g nm s)(ho:ai [] wr w'):EH w0 w' n g nm s:=by
 obtain⟨L,h1,h2,h3⟩:=h;exact⟨L,h1.nil' ho,h2,h3.trans ho⟩
theorem EH.own{w0 wr:World}{n:Nat}{g nm:ByteArray}{s:EN}(h:EH w0 wr n g nm s):ai [] w0 wr:=by
 obtain⟨L,h1,h2,h3⟩:=h;exact h3
theorem EH.step{w0 wr w':World}{n:Nat}{g nm:ByteArray}{s':EN}{L:EW}(h2: ∀x∈L.feet n,w0.heap.size<=x)(h3:ai [] w0 wr)(h: ∃L',au w' n g nm L' s'/\ai (L.feet n) wr w'/\(∀x∈L'.feet n,x∈L.feet n\/wr.heap.size<=x)):EH w0 w' n g nm s':=by
 obtain⟨L',k1,k2,k3⟩:=h;refine⟨L',k1,fun x hx=>?_,h3.trans' k2 (fun x hx=>.inr (h2 x hx))⟩;rcases k3 x hx with h4|h4
 ·exact h2 x h4
 ·exact Nat.le_trans h3.size h4
theorem EH.post{w0 wr:World}{n:Nat}{g nm:ByteArray}{L:EW}{r:Int×EN}(h2: ∀x∈L.feet n,w0.heap.size<=x)(h3:ai [] w0 wr){e:Ending}{w':World}(h:dD n g nm L r wr e w'):e=.returned (.int .i64 r.1)/\EH w0 w' n g nm r.2:=⟨h.1,EH.step h2 h3 h.2⟩
theorem EH.new(g nm:ByteArray)(w:World)(hg:g.toList.isEmpty=false)(hn:nm.toList.isEmpty=false):
  Calls Tryz.prog 93 #[.string g,.string nm] w fun e w'=> ∃n,e=.returned (.tuple #[.pointer (some ⟨n,0,none⟩),.int .i64 0])/\EH w w' n g nm ⟨false,0,0,false,false,[],[],[]⟩:=
 (xW g nm w hg hn).mono fun _ _ ⟨n,L,h1,h2,h3,h4⟩=>⟨n,h1,L,h2,h3,h4⟩
theorem LY(nm:ByteArray)(on:Bool)(N:Nat)(L:List bD)(hN:N=L.length)(a1:Option Addr)(c1:Nat)(a2:Option Addr)(c2:Nat)(w:World)(h1:aY w a1 L)(h2:aY w a2 L)(hl:N<=32):
  Calls Tryz.prog 33 #[.agg #[.string nm,.bool on,.slice a1 N c1],.agg #[.string nm,.bool on,.slice a2 N c2]] w fun e w'=>e=.returned (.bool true)/\ai [] w w':=by
 have hA1:ai [] w (w.alloc (.cells #[.string nm,.bool on,.slice a1 N c1] 46)):=(ai.refl _ _).alloc _;have hA2:ai [] w ((w.alloc (.cells #[.string nm,.bool on,.slice a1 N c1] 46)).alloc (.cells #[.string nm,.bool on,.slice a2 N c2] 46)):=hA1.alloc _;have r1:((w.alloc (.cells #[.string nm,.bool on,.slice a1 N c1] 46)).alloc (.cells #[.string nm,.bool on,.slice a2 N c2] 46)).heap[w.heap.size]?=some (.cells #[.string nm,.bool on,.slice a1 N c1] 46 (0,0)):=
  ((ai.refl [] _).alloc _).heap (heap_alloc_new w _) (by simp)
 have r2:((w.alloc (.cells #[.string nm,.bool on,.slice a1 N c1] 46)).alloc (.cells #[.string nm,.bool on,.slice a2 N c2] 46)).heap[w.heap.size+1]?=some (.cells #[.string nm,.bool on,.slice a2 N c2] 46 (0,0)):=by
  have:=heap_alloc_new (w.alloc (.cells #[.string nm,.bool on,.slice a1 N c1] 46)) (.cells #[.string nm,.bool on,.slice a2 N c2] 46);simpa using this
 have hB:=fun W (ho:ai [] ((w.alloc (.cells #[.string nm,.bool on,.slice a1 N c1] 46)).alloc (.cells #[.string nm,.bool on,.slice a2 N c2] 46)) W)=>And.intro (RH (ho.heap r1 (by simp))).1 (RH (ho.heap r2 (by simp))).1
 obtain⟨⟨p0,p1,p2⟩,q0,q1,q2⟩:=hB _ (ai.refl _ _);have hs:(nm.toList==nm.toList)=true:=by simp
 have ho:(on==on)=true:=by simp
 have hI1:=fun W (ho:ai [] w W)=>h1.nil' ho
 have hI2:=fun W (ho:ai [] w W)=>h2.nil' ho
 change Hid _ at hI1 hI2 hB hN;replace hA2:=af hA2;clear h1 h2 r1 r2 hA1;go_enter Tryz.func33,Tryz.ntmps33
 go_wp2_with fail
 go_loopg[5] N (fun m s5 wr=> ∃k:Nat,k<=N/\m=N-k/\s5=.int .i64 k/\Aside (ai [] ((w.alloc (.cells #[.string nm,.bool on,.slice a1 N c1] 46)).alloc (.cells #[.string nm,.bool on,.slice a2 N c2] 46)) wr))
 case atStart=>exact⟨0,by omega,by omega,rfl,ai.refl _ _⟩
 case round=>
  obtain⟨k,hk1,rfl,rfl,hO⟩:=hrel;obtain⟨⟨x0,x1,x2⟩,y0,y1,y2⟩:=hB.out _ hO;by_cases hlt:k<N
  ·obtain⟨b1,o1,rfl,hb1,_,hc1⟩:=(hI1.out _ (hA2.out.trans hO)).item (show k<L.length by have:=hN.out;omega)
   obtain⟨b2,o2,rfl,hb2,_,hc2⟩:=(hI2.out _ (hA2.out.trans hO)).item (show k<L.length by have:=hN.out;omega);have hq:=fun W=>vF (dJ L k) (dJ L k) W
   rw[zC]at hq;generalize dJ L k=x at hc1 hc2 hq;obtain⟨WB,hs',al',ty',WC,WE,WG,vs'⟩:=x;obtain⟨d0,d1,d2,d3,d4,d5,d6,d7⟩:=Ry.all hc1;obtain⟨e0,e1,e2,e3,e4,e5,e6,e7⟩:=Ry.all hc2;have q0:(0:Int)<=k:=by omega
   have q1:(k:Int)<N:=by omega
   unfold bD.val bD.cells at hq;change Hid _ at hO;clear hc1 hc2 hb1 hb2;go_wp2_with fail
   go_quiet(fail)
   go_wp2_with fail
   go_roundg(N-(k+1))
   case measure=>omega
   case rel=>exact⟨k+1,by omega,rfl,by go_num,hO.out.drewN _⟩
  ·replace hO:=af hO
   go_wp2_with fail
   go_ret
   exact⟨rfl,hA2.out.trans hO.out⟩
structure Va (w:World) (its:List bD) (dev:List bQ) (a:Option Addr) (va:Option Addr) (V:List DV):Prop where
 itsAt:aY w a its
 few:its.length<=32
 rows:bR vX 3 (fun _=>True) w va V
 len:V.length=dev.length
 len4:dev.length<=4
 devs: ∀(i:Nat) v x,V[i]?=some v->dev[i]?=some x->v.name=x.name/\v.on=x.on/\v.n=x.items.length/\x.items.length<=32/\aY w v.a x.items
theorem Va.nil'{w w':World}{its:List bD}{dev:List bQ}{a va:Option Addr}{V:List DV}(h:Va w its dev a va V)(ho:ai [] w w'):Va w' its dev a va V:=
 ⟨h.itsAt.nil' ho,h.few,h.rows.nil' ho,h.len,h.len4,fun i v x hv hx=>by
  obtain⟨h1,h2,h3,h4,h5⟩:=h.devs i v x hv hx;exact⟨h1,h2,h3,h4,h5.nil' ho⟩⟩
theorem V6{B:Nat}{w:World}{s:EN}{a:Option Addr}{cap:Nat}{va:Option Addr}{vn vc:Nat}{V:List DV}(h1:aI B w a cap s.items)(h2:Sl 46 vX 3 B w (.slice va vn vc) V)(h3:XH B w V s.dev)(hf:s.items.length<=32)(hd:s.dev.length<=4)(hx: ∀x∈s.dev,x.items.length<=32):
  Va w s.items s.dev a va V/\vn=s.dev.length:=by
 have hlen:=h3.1;refine⟨⟨h1.at_ (by omega),hf,?_,hlen,hd,fun i v x hv hx'=>?_⟩,?_⟩
 ·rcases h2.form with⟨h4,h5⟩|⟨gb,cp,h4,_,hR⟩
  ·cases h4;rw[h5];exact bR.empty _ _
  ·cases h4;exact bR.of_row hR Dt (by omega) (fun _ _=>trivial)
 ·obtain⟨q1,q2,q3,q4⟩:=h3.2 i v x hv hx'
  have:=hx x (List.mem_of_getElem? hx');exact⟨q1,q2,q3,this,q4.at_ (by omega)⟩
 ·rcases h2.form with⟨h4,h5⟩|⟨gb,cp,h4,_,hR⟩
  ·cases h4;rw[<-hlen,h5];rfl
  ·cases h4;exact hlen
theorem Vb{w:World}{its:List bD}{dev:List bQ}{a va:Option Addr}{V:List DV}(h:Va w its dev a va V){k:Nat}(hk:k<dev.length){x:bQ}(hx:dev[k]?=some x):
  ∃b o a1 c1,va=some ⟨b,o,none⟩/\w.cell? ⟨b,o+k*3,none⟩=some (.string x.name)/\w.cell? ⟨b,o+k*3+1,none⟩=some (.bool x.on)/\w.cell? ⟨b,o+k*3+2,none⟩=some (.slice a1 x.items.length c1)/\x.items.length<=32/\aY w a1 x.items:=by
 have hv:k<V.length:=by rw[h.len];exact hk
 have hV:=List.getElem?_eq_getElem hv;obtain⟨q1,q2,q3,q4,q5⟩:=h.devs k _ x hV hx;obtain⟨b,o,e,_,hc⟩:=h.rows.2 (by omega);have hc':=(hc k _ hV).2;refine⟨b,o,(V[k]).a,(V[k]).cap,e,?_,?_,?_,q4,q5⟩
 ·have:=hc' 0 _ rfl
  rw[q1]at this;simpa using this
 ·have:=hc' 1 _ rfl
  rw[q2]at this;exact this
 ·have:=hc' 2 _ rfl
  rw[q3]at this;exact this
theorem XL(g nm:ByteArray)(on pe:Bool)(bd nx:Int)(its:List bD)(dev:List bQ)(il dl:Nat)(hil:il=its.length)(hdl:dl=dev.length)(a1 UR a2 Jl:Option Addr)(c1 Vr c2 XF:Nat)(V1 V2:List DV)(w:World)(h1:Va w its dev a1 UR V1)(h2:Va w its dev a2 Jl V2):
  Calls Tryz.prog 13 #[.agg #[.string g,.string nm,.bool on,.int .i64 bd,.int .i64 nx,.bool pe,.slice a1 il c1,.slice UR dl Vr],.agg #[.string g,.string nm,.bool on,.int .i64 bd,.int .i64 nx,.bool pe,.slice a2 il c2,.slice Jl dl XF]] w fun e w'=>e=.returned (.bool true)/\ai [] w w':=by
 have hA1:ai [] w (w.alloc (.cells #[.string g,.string nm,.bool on,.int .i64 bd,.int .i64 nx,.bool pe,.slice a1 il c1,.slice UR dl Vr] 38)):=(ai.refl _ _).alloc _;have hA2:ai [] w ((w.alloc (.cells #[.string g,.string nm,.bool on,.int .i64 bd,.int .i64 nx,.bool pe,.slice a1 il c1,.slice UR dl Vr] 38)).alloc (.cells #[.string g,.string nm,.bool on,.int .i64 bd,.int .i64 nx,.bool pe,.slice a2 il c2,.slice Jl dl XF] 38)):=hA1.alloc _;have r1:((w.alloc (.cells #[.string g,.string nm,.bool on,.int .i64 bd,.int .i64 nx,.bool pe,.slice a1 il c1,.slice UR dl Vr] 38)).alloc (.cells #[.string g,.string nm,.bool on,.int .i64 bd,.int .i64 nx,.bool pe,.slice a2 il c2,.slice Jl dl XF] 38)).heap[w.heap.size]?=some (.cells #[.string g,.string nm,.bool on,.int .i64 bd,.int .i64 nx,.bool pe,.slice a1 il c1,.slice UR dl Vr] 38 (0,0)):=
  ((ai.refl [] _).alloc _).heap (heap_alloc_new w _) (by simp)
 have r2:((w.alloc (.cells #[.string g,.string nm,.bool on,.int .i64 bd,.int .i64 nx,.bool pe,.slice a1 il c1,.slice UR dl Vr] 38)).alloc (.cells #[.string g,.string nm,.bool on,.int .i64 bd,.int .i64 nx,.bool pe,.slice a2 il c2,.slice Jl dl XF] 38)).heap[w.heap.size+1]?=some (.cells #[.string g,.string nm,.bool on,.int .i64 bd,.int .i64 nx,.bool pe,.slice a2 il c2,.slice Jl dl XF] 38 (0,0)):=by
  have:=heap_alloc_new (w.alloc (.cells #[.string g,.string nm,.bool on,.int .i64 bd,.int .i64 nx,.bool pe,.slice a1 il c1,.slice UR dl Vr] 38)) (.cells #[.string g,.string nm,.bool on,.int .i64 bd,.int .i64 nx,.bool pe,.slice a2 il c2,.slice Jl dl XF] 38);simpa using this
 generalize hW0:(w.alloc (.cells #[.string g,.string nm,.bool on,.int .i64 bd,.int .i64 nx,.bool pe,.slice a1 il c1,.slice UR dl Vr] 38)).alloc (.cells #[.string g,.string nm,.bool on,.int .i64 bd,.int .i64 nx,.bool pe,.slice a2 il c2,.slice Jl dl XF] 38)=W0 at*;have hB:=fun W (ho:ai [] W0 W)=>And.intro (JZ (ho.heap r1 (by simp))).1 (JZ (ho.heap r2 (by simp))).1
 obtain⟨⟨p0,p1,p2,p3,p4,p5,p6,p7⟩,q0,q1,q2,q3,q4,q5,q6,q7⟩:=hB _ (ai.refl _ _);have hs0:(g.toList==g.toList)=true:=by simp
 have hs:(nm.toList==nm.toList)=true:=by simp
 have ho:(on==on)=true:=by simp
 have hp:(pe==pe)=true:=by simp
 have hI1:=fun W (ho:ai [] w W)=>h1.nil' ho
 have hI2:=fun W (ho:ai [] w W)=>h2.nil' ho
 have hl4:dl<=4:=by rw[hdl];exact h1.len4
 have cI:=fun W (ho:ai [] w W)=>J4 a1 its c1 a2 its c2 W (h1.nil' ho).itsAt (h2.nil' ho).itsAt
 rw[Cw,<-hil]at cI;have cI0:=cI _ hA2;rw[<-hW0]at p0 p1 p2 p3 p4 p5 p6 p7 q0 q1 q2 q3 q4 q5 q6 q7 cI0;have cD:=fun W (x:bQ) a c a' c' (h1:aY W a x.items) (h2:aY W a' x.items) (hl:x.items.length<=32)=>LY x.name x.on x.items.length x.items rfl a c a' c' W h1 h2 hl
 change Hid _ at hW0 cD hI1 hI2 hB hil hdl;replace hA2:=af hA2;replace cI0:=af cI0;clear h1 h2 r1 r2 hA1 cI;go_enter Tryz.func13,Tryz.ntmps13
 go_wp2_with(go_at_call 32;(with_reducible refine cI0.out.mono ?_);rintro e w3 ⟨rfl,hO3⟩;rw[hW0.out]at hO3;obtain⟨⟨x0,x1,x2,x3,x4,x5,x6,x7⟩,y0,y1,y2,y3,y4,y5,y6,y7⟩:=hB.out _ hO3;replace hO3:=af hO3)
 go_loopg[5] dl (fun m s5 wr=> ∃k:Nat,k<=dl/\m=dl-k/\s5=.int .i64 k/\Aside (ai [] W0 wr))
 case atStart=>exact⟨0,by omega,by omega,rfl,hO3.out⟩
 case round=>
  obtain⟨k,hk1,rfl,rfl,hO⟩:=hrel;clear p0 p1 p2 p3 p4 p5 p6 p7 q0 q1 q2 q3 q4 q5 q6 q7 x0 x1 x2 x3 x4 x5 x6 x7 y0 y1 y2 y3 y4 y5 y6 y7;obtain⟨⟨x0,x1,x2,x3,x4,x5,x6,x7⟩,y0,y1,y2,y3,y4,y5,y6,y7⟩:=hB.out _ hO;by_cases hlt:k<dl
  ·have hkd:k<dev.length:=by rw[<-hdl.out];exact hlt
   obtain⟨b1,o1,d1,e1,rfl,f0,f1,f2,hl,hi1⟩:=Vb (hI1.out _ (hA2.out.trans hO)) hkd (List.getElem?_eq_getElem hkd);obtain⟨b2,o2,d2,e2,rfl,g0,g1,g2,_,hi2⟩:=Vb (hI2.out _ (hA2.out.trans hO)) hkd (List.getElem?_eq_getElem hkd);have cD1:=cD.out wr.drew dev[k] d1 e1 d2 e2 (hi1.nil' (ai.refl _ _).drew) (hi2.nil' (ai.refl _ _).drew) hl;generalize dev[k]=x at*;replace cD1:=af cD1;have q0:(0:Int)<=k:=by omega
   have q1:(k:Int)<dl:=by omega
   replace hO:=af hO;clear hi1 hi2;go_wp2_with fail
   go_region_with((go_at_call 33;(with_reducible refine cD1.out.mono ?_);rintro e w5 ⟨rfl,aB⟩;replace aB:=af (hO.out.drew.trans aB)))
   all_goals
    go_wp2_with fail
    go_roundg(dl-(k+1))
    case measure=>omega
    case rel=>exact⟨k+1,by omega,rfl,by go_num,aB.out⟩
  ·replace hO:=af hO
   go_wp2_with fail
   go_ret
   exact⟨rfl,hA2.out.trans hO.out⟩
theorem Fe:(Tryz.prog.fieldsOf 87).toList.map (fun f=>(f.name,f.type,f.offset))=[("group",9,0),("name",9,1)]:=by kernel_rfl
theorem JU:Tryz.prog.underlying 87=some (.struct (Tryz.prog.fieldsOf 87)):=by kernel_rfl
theorem fP:dV Tryz.prog 87 bT:=
 JS Fe (by decide) (by decide) JU (by kernel_rfl) Tryz.underlying9 (by kernel_rfl)
theorem gG:Tryz.prog.underlying 67=some (.map 87 78):=Tryz.underlying67
end Go.Proofs.YtedcakchekaemaaGreatDoor
namespace Go.Proofs.YtedcakchekaemaaGreatDoor
open Go.RowKit
variable [Kd]
structure gy where
 g:ByteArray
 n:ByteArray
 blk:Nat
 L:EW
 s:EN
def gy.key(x:gy):Rk:=(x.g,x.n)
def gy.feet(x:gy):List Nat:=x.L.feet x.blk
structure aU where
 p:Nat
 m:Nat
 h:Nat
 hm:Nat
 bb:Nat
 bv:Value
 r:Nat
 RB:List Nat
 NS:List gy
 hs:rf
 bi:List Bi
 ra:gN
 asked:Int
def Dj(a b:List Nat):Prop:= ∀z∈a,z∉b
def aU.parts(K:aU):List (List Nat):=[K.p]::[K.m]::[K.h,K.hm]::aZ K.bb K.bv::K.RB::K.NS.map gy.feet
def aU.feet(K:aU):List Nat:=K.parts.flatten
structure bq (w:World) (K:aU):Prop where
 sp:w.heap[K.p]?=some (.cells #[.map (some K.m),aK K.h,aK K.bb,aK K.r,.int .i64 K.asked] 73 (0,0))
 nm:cu bT w K.m (K.NS.map fun x=>(x.key,aK x.blk))
 eds: ∀x∈K.NS,au w x.blk x.g x.n x.L x.s
 ho:jR w K.h K.hm K.hs
 bi:jQ w K.bb K.bv K.bi
 ra:ni w K.r 10 K.RB K.ra
 apart:K.parts.Pairwise Dj
 lt: ∀z∈K.feet,z<w.heap.size
 nd:(K.NS.map gy.key).Nodup
 few:K.NS.length<=8
 ask:0<=K.asked/\K.asked<=1000000
theorem nQ{A B:List (List Nat)}{C:List Nat}(h:(A++C::B).Pairwise Dj): ∀a∈A++B,∀z∈a,z∉C:=by
 rw[List.pairwise_append,List.pairwise_cons]at h;obtain⟨_,⟨h2,_⟩,h3⟩:=h;intro a ha z hz hc;rcases List.mem_append.1 ha with ha|ha
 ·exact h3 a ha C (by simp) z hz hc
 ·exact h2 a ha z hc hz
theorem Bo{A B:List (List Nat)}{C C':List Nat}{n:Nat}(h:(A++C::B).Pairwise Dj)(hn: ∀z∈(A++C::B).flatten,z<n)(hC: ∀z∈C',z∈C\/n<=z):(A++C'::B).Pairwise Dj:=by
 have hd:=nQ h;have hlt: ∀a∈A++B,∀z∈a,z<n:=fun a ha z hz=>hn z (List.mem_flatten.2 ⟨a,by
  rcases List.mem_append.1 ha with h1|h1
  ·exact List.mem_append_left _ h1
  ·exact List.mem_append_right _ (List.mem_cons_of_mem _ h1),hz⟩)
 have hno: ∀a∈A++B,∀z∈a,z∉C':=fun a ha z hz hc=>by
  rcases hC z hc with h1|h1
  ·exact hd a ha z hz h1
  ·have:=hlt a ha z hz;omega
 rw[List.pairwise_append,List.pairwise_cons]at h⊢;obtain⟨h1,⟨h2,h3⟩,h4⟩:=h;refine⟨h1,⟨fun a ha z hz hc=>hno a (List.mem_append_right _ ha) z hc hz,h3⟩,fun a ha b hb=>?_⟩;rcases List.mem_cons.1 hb with rfl|hb
 ·exact hno a (List.mem_append_left _ ha)
 ·exact h4 a ha b (List.mem_cons_of_mem _ hb)
theorem Sw{A:List (List Nat)}{C':List Nat}{n:Nat}(h:A.Pairwise Dj)(hn: ∀z∈A.flatten,z<n)(hC: ∀z∈C',n<=z):(A++[C']).Pairwise Dj:=by
 rw[List.pairwise_append];refine⟨h,List.pairwise_singleton _ _,fun a ha b hb z hz hc=>?_⟩;rw[List.mem_singleton]at hb;subst hb;have h1:=hn z (List.mem_flatten.2 ⟨a,ha,hz⟩);have h2:=hC z hc;omega
theorem aU.part{K:aU}{a:List Nat}(ha:a∈K.parts){z:Nat}(hz:z∈a):z∈K.feet:=List.mem_flatten.2 ⟨a,ha,hz⟩
theorem aU.memN{K:aU}{x:gy}(hx:x∈K.NS):x.feet∈K.NS.map gy.feet:=List.mem_map.2 ⟨x,hx,rfl⟩
theorem bq.own{S:List Nat}{w w':World}{K:aU}(H:bq w K)(ho:ai S w w')(hS: ∀z∈K.feet,z∉S):bq w' K:=by
 have hp:=fun a (ha:a∈K.parts) z (hz:z∈a)=>hS z (aU.part ha hz)
 exact⟨ho.heap H.sp (hp [K.p] (by simp[aU.parts]) _ (by simp)),H.nm.own ho (hp [K.m] (by simp[aU.parts]) _ (by simp)),
  fun x hx=>(H.eds x hx).own ho (fun z hz=>hp x.feet (by have:=aU.memN hx;simp only[aU.parts,List.mem_cons];exact .inr (.inr (.inr (.inr (.inr this))))) z hz),
  H.ho.own ho (hp [K.h,K.hm] (by simp[aU.parts]) _ (by simp)) (hp [K.h,K.hm] (by simp[aU.parts]) _ (by simp)),
  H.bi.own ho (hp (aZ K.bb K.bv) (by simp[aU.parts])),H.ra.own ho (hp K.RB (by simp[aU.parts])),H.apart,fun z hz=>Nat.lt_of_lt_of_le (H.lt z hz) ho.size,H.nd,H.few,H.ask⟩
theorem bq.nil'{w w':World}{K:aU}(H:bq w K)(ho:ai [] w w'):bq w' K:=H.own ho (by simp)
structure SP where
 nodes:List (Rk×EN)
 hs:rf
 bi:List Bi
 ra:gN
 asked:Int
def aU.sp(K:aU):SP:=⟨K.NS.map fun x=>(x.key,x.s),K.hs,K.bi,K.ra,K.asked⟩
theorem bq.hosts{w w':World}{K:aU}{st:rf}(H:bq w K)(hH:jR w' K.h K.hm st)(ho:ai [K.h,K.hm] w w'):bq w' {K with hs:=st}:=by
 have hn:=nQ (A:=[[K.p],[K.m]]) (C:=[K.h,K.hm]) (B:=aZ K.bb K.bv::K.RB::K.NS.map gy.feet) H.apart;exact⟨ho.heap H.sp (hn [K.p] (by simp) _ (by simp)),H.nm.own ho (hn [K.m] (by simp) _ (by simp)),fun x hx=>(H.eds x hx).own ho (fun z hz=>hn x.feet (by have:=aU.memN hx;simp only[List.cons_append,List.nil_append,List.mem_cons];exact .inr (.inr (.inr (.inr this)))) z hz),hH,
  H.bi.own ho (hn (aZ K.bb K.bv) (by simp)),H.ra.own ho (hn K.RB (by simp)),H.apart,fun z hz=>Nat.lt_of_lt_of_le (H.lt z hz) ho.size,H.nd,H.few,H.ask⟩
theorem bq.births{w w':World}{K:aU}{v:Value}{L:List Bi}(H:bq w K)(hB:jQ w' K.bb v L)(ho:ai (aZ K.bb K.bv) w w')(hf: ∀z∈aZ K.bb v,z∈aZ K.bb K.bv\/w.heap.size<=z):
  bq w' {K with bv:=v,bi:=L}/\ ∀z∈aU.feet {K with bv:=v,bi:=L},z∈K.feet\/w.heap.size<=z:=by
 have hn:=nQ (A:=[[K.p],[K.m],[K.h,K.hm]]) (C:=aZ K.bb K.bv) (B:=K.RB::K.NS.map gy.feet) H.apart;have hap:=Bo (A:=[[K.p],[K.m],[K.h,K.hm]]) (C:=aZ K.bb K.bv) (B:=K.RB::K.NS.map gy.feet) H.apart H.lt hf;have hft: ∀z∈aU.feet {K with bv:=v,bi:=L},z∈K.feet\/w.heap.size<=z:=fun z hz=>by
  obtain⟨a,ha,hz⟩:=List.mem_flatten.1 hz;simp only[aU.parts,List.mem_cons]at ha;have hq: ∀b,b∈K.parts->z∈b->z∈K.feet\/w.heap.size<=z:=fun b hb hzb=>.inl (aU.part hb hzb)
  rcases ha with rfl|rfl|rfl|rfl|rfl|ha
  ·exact hq [K.p] (by simp[aU.parts]) hz
  ·exact hq [K.m] (by simp[aU.parts]) hz
  ·exact hq [K.h,K.hm] (by simp[aU.parts]) hz
  ·rcases hf z hz with h1|h1
   ·exact hq (aZ K.bb K.bv) (by simp[aU.parts]) h1
   ·exact .inr h1
  ·exact hq K.RB (by simp[aU.parts]) hz
  ·exact hq a (by simp only[aU.parts,List.mem_cons];exact .inr (.inr (.inr (.inr (.inr ha))))) hz
 refine⟨⟨ho.heap H.sp (hn [K.p] (by simp) _ (by simp)),H.nm.own ho (hn [K.m] (by simp) _ (by simp)),fun x hx=>(H.eds x hx).own ho (fun z hz=>hn x.feet (by have:=aU.memN hx;simp only[List.cons_append,List.nil_append,List.mem_cons];exact .inr (.inr (.inr (.inr this)))) z hz),
  H.ho.own ho (hn [K.h,K.hm] (by simp) _ (by simp)) (hn [K.h,K.hm] (by simp) _ (by simp)),hB,H.ra.own ho (hn K.RB (by simp)),hap,fun z hz=>?_,H.nd,H.few,H.ask⟩,hft⟩
 rcases hft z hz with h1|h1
 ·exact Nat.lt_of_lt_of_le (H.lt z h1) ho.size
 ·obtain⟨a,ha,hz⟩:=List.mem_flatten.1 hz
  simp only[aU.parts,List.mem_cons]at ha;have hq: ∀b,b∈K.parts->z∈b->z<w'.heap.size:=fun b hb hzb=>Nat.lt_of_lt_of_le (H.lt z (aU.part hb hzb)) ho.size
  rcases ha with rfl|rfl|rfl|rfl|rfl|ha
  ·exact hq [K.p] (by simp[aU.parts]) hz
  ·exact hq [K.m] (by simp[aU.parts]) hz
  ·exact hq [K.h,K.hm] (by simp[aU.parts]) hz
  ·exact hB.lt z hz
  ·exact hq K.RB (by simp[aU.parts]) hz
  ·exact hq a (by simp only[aU.parts,List.mem_cons];exact .inr (.inr (.inr (.inr (.inr ha))))) hz
theorem gy.lt{w:World}{x:gy}(h:au w x.blk x.g x.n x.L x.s): ∀z∈x.feet,z<w.heap.size:=h.lt
theorem bq.node{w w':World}{K:aU}{A B:List gy}{x:gy}{L:EW}{s:EN}(H:bq w K)(BJ:K.NS=A++x::B)(hE:au w' x.blk x.g x.n L s)(ho:ai x.feet w w')(hf: ∀z∈L.feet x.blk,z∈x.feet\/w.heap.size<=z):
  bq w' {K with NS:=A++{x with L:=L,s:=s}::B}/\ ∀z∈aU.feet {K with NS:=A++{x with L:=L,s:=s}::B},z∈K.feet\/w.heap.size<=z:=by
 have hp0:K.parts=([K.p]::[K.m]::[K.h,K.hm]::aZ K.bb K.bv::K.RB::A.map gy.feet)++x.feet::B.map gy.feet:=by unfold aU.parts;rw[BJ];simp
 have hp1:aU.parts {K with NS:=A++{x with L:=L,s:=s}::B}=([K.p]::[K.m]::[K.h,K.hm]::aZ K.bb K.bv::K.RB::A.map gy.feet)++L.feet x.blk::B.map gy.feet:=by unfold aU.parts;simp[gy.feet]
 have Xg:=H.apart;have MQ:=H.lt;unfold aU.feet at MQ;rw[hp0]at Xg MQ;have hn:=nQ Xg;have hap:=Bo Xg MQ hf;have hft: ∀z∈aU.feet {K with NS:=A++{x with L:=L,s:=s}::B},z∈K.feet\/w.heap.size<=z:=fun z hz=>by
  unfold aU.feet at hz⊢;rw[hp1]at hz;rw[hp0];simp only[List.flatten_append,List.flatten_cons,List.mem_append]at hz⊢;rcases hz with hz|hz|hz
  ·exact .inl (.inl hz)
  ·rcases hf z hz with h1|h1
   ·exact .inl (.inr (.inl h1))
   ·exact .inr h1
  ·exact .inl (.inr (.inr hz))
 have hsz:=ho.size;refine⟨⟨ho.heap H.sp (hn [K.p] (by simp) _ (by simp)),?_,fun y hy=>?_,H.ho.own ho (hn [K.h,K.hm] (by simp) _ (by simp)) (hn [K.h,K.hm] (by simp) _ (by simp)),H.bi.own ho (hn (aZ K.bb K.bv) (by simp)),H.ra.own ho (hn K.RB (by simp)),by rw[hp1];exact hap,fun z hz=>?_,?_,?_,H.ask⟩,hft⟩
 ·have:=H.nm.own ho (hn [K.m] (by simp) _ (by simp))
  rw[BJ]at this;simpa[gy.key]using this
 ·rcases List.mem_append.1 hy with h1|h1
  ·exact(H.eds y (by rw[BJ];exact List.mem_append_left _ h1)).own ho (fun z hz=>hn y.feet (List.mem_append_left _ (by have:y.feet∈A.map gy.feet:=List.mem_map.2 ⟨y,h1,rfl⟩;simp only[List.mem_cons];exact .inr (.inr (.inr (.inr (.inr this)))))) z hz)
  ·rcases List.mem_cons.1 h1 with rfl|h1
   ·exact hE
   ·exact(H.eds y (by rw[BJ];exact List.mem_append_right _ (List.mem_cons_of_mem _ h1))).own ho (fun z hz=>hn y.feet (List.mem_append_right _ (List.mem_map.2 ⟨y,h1,rfl⟩)) z hz)
 ·unfold aU.feet at hz
  rw[hp1]at hz;simp only[List.flatten_append,List.flatten_cons,List.mem_append]at hz MQ;rcases hz with hz|hz|hz
  ·exact Nat.lt_of_lt_of_le (MQ z (.inl hz)) hsz
  ·exact hE.lt z hz
  ·exact Nat.lt_of_lt_of_le (MQ z (.inr (.inr hz))) hsz
 ·have:=H.nd
  rw[BJ]at this;simpa[gy.key]using this
 ·have:=H.few
  rw[BJ]at this;simpa using this
theorem bq.push{w w':World}{K:aU}{x:gy}(H:bq w K)(hE:au w' x.blk x.g x.n x.L x.s)(ho:ai [K.m] w w')(hM:cu bT w' K.m (K.NS.map (fun x=>(x.key,aK x.blk))++[(x.key,aK x.blk)]))(hf: ∀z∈x.feet,w.heap.size<=z)(hk:x.key∉K.NS.map gy.key)(hl:K.NS.length<8):
  bq w' {K with NS:=K.NS++[x]}/\ ∀z∈aU.feet {K with NS:=K.NS++[x]},z∈K.feet\/w.heap.size<=z:=by
 have hp1:aU.parts {K with NS:=K.NS++[x]}=K.parts++[x.feet]:=by unfold aU.parts;simp
 have hn:=nQ (A:=[[K.p]]) (C:=[K.m]) (B:=[K.h,K.hm]::aZ K.bb K.bv::K.RB::K.NS.map gy.feet) H.apart;have hft: ∀z∈aU.feet {K with NS:=K.NS++[x]},z∈K.feet\/w.heap.size<=z:=fun z hz=>by
  unfold aU.feet at hz⊢;rw[hp1]at hz;simp only[List.flatten_append,List.flatten_cons,List.flatten_nil,List.append_nil,List.mem_append]at hz;exact hz.imp id (hf z)
 have hsz:=ho.size;refine⟨⟨ho.heap H.sp (hn [K.p] (by simp) _ (by simp)),by simpa using hM,fun y hy=>?_,H.ho.own ho (hn [K.h,K.hm] (by simp) _ (by simp)) (hn [K.h,K.hm] (by simp) _ (by simp)),H.bi.own ho (hn (aZ K.bb K.bv) (by simp)),H.ra.own ho (hn K.RB (by simp)),by rw[hp1];exact Sw H.apart H.lt hf,fun z hz=>?_,?_,by simp;omega,H.ask⟩,hft⟩
 ·rcases List.mem_append.1 hy with h1|h1
  ·exact(H.eds y h1).own ho (fun z hz=>hn y.feet (by have:=aU.memN h1;simp only[List.cons_append,List.nil_append,List.mem_cons];exact .inr (.inr (.inr (.inr this)))) z hz)
  ·rw[List.mem_singleton]at h1
   subst h1;exact hE
 ·unfold aU.feet at hz
  rw[hp1]at hz;simp only[List.flatten_append,List.flatten_cons,List.flatten_nil,List.append_nil,List.mem_append]at hz;rcases hz with hz|hz
  ·exact Nat.lt_of_lt_of_le (H.lt z hz) hsz
  ·exact hE.lt z hz
 ·rw[List.map_append,List.nodup_append]
  exact⟨H.nd,by simp,fun a ha b hb e=>by simp at hb;subst hb;subst e;exact hk ha⟩
theorem bq.rate{w w':World}{K:aU}{B:List Nat}{l:gN}{n:Int}(H:bq w K)(hR:ni w' K.r 10 B l)(ho:ai (K.p::K.RB) w w')(hp:w'.heap[K.p]?=some (.cells #[.map (some K.m),aK K.h,aK K.bb,aK K.r,.int .i64 n] 73 (0,0)))(hf: ∀z∈B,z∈K.RB\/w.heap.size<=z)(hb: ∀z∈B,z<w'.heap.size)(hn:0<=n/\n<=1000000):
  bq w' {K with RB:=B,ra:=l,asked:=n}/\ ∀z∈aU.feet {K with RB:=B,ra:=l,asked:=n},z∈K.feet\/w.heap.size<=z:=by
 have hn1:=nQ (A:=[]) (C:=[K.p]) (B:=[K.m]::[K.h,K.hm]::aZ K.bb K.bv::K.RB::K.NS.map gy.feet) H.apart;have hn2:=nQ (A:=[[K.p],[K.m],[K.h,K.hm],aZ K.bb K.bv]) (C:=K.RB) (B:=K.NS.map gy.feet) H.apart;have hap:=Bo (A:=[[K.p],[K.m],[K.h,K.hm],aZ K.bb K.bv]) (C:=K.RB) (C':=B) (B:=K.NS.map gy.feet) H.apart H.lt hf;have hno: ∀a,a∈[K.m]::[K.h,K.hm]::aZ K.bb K.bv::K.RB::K.NS.map gy.feet->a∈[[K.p],[K.m],[K.h,K.hm],aZ K.bb K.bv]++K.NS.map gy.feet-> ∀z∈a,z∉K.p::K.RB:=fun a h1 h2 z hz hc=>by
  rcases List.mem_cons.1 hc with hc|hc
  ·exact hn1 a (by simpa using h1) z hz (by simp[hc])
  ·exact hn2 a h2 z hz hc
 have hft: ∀z∈aU.feet {K with RB:=B,ra:=l,asked:=n},z∈K.feet\/w.heap.size<=z:=fun z hz=>by
  obtain⟨a,ha,hy⟩:=List.mem_flatten.1 hz;simp only[aU.parts,List.mem_cons]at ha;have hq: ∀b,b∈K.parts->z∈b->z∈K.feet\/w.heap.size<=z:=fun b hb hzb=>.inl (aU.part hb hzb)
  rcases ha with rfl|rfl|rfl|rfl|rfl|ha
  ·exact hq [K.p] (by simp[aU.parts]) hy
  ·exact hq [K.m] (by simp[aU.parts]) hy
  ·exact hq [K.h,K.hm] (by simp[aU.parts]) hy
  ·exact hq (aZ K.bb K.bv) (by simp[aU.parts]) hy
  ·rcases hf z hy with h1|h1
   ·exact hq K.RB (by simp[aU.parts]) h1
   ·exact .inr h1
  ·exact hq a (by simp only[aU.parts,List.mem_cons];exact .inr (.inr (.inr (.inr (.inr ha))))) hy
 refine⟨⟨hp,H.nm.own ho (hno [K.m] (by simp) (by simp) _ (by simp)),fun x hx=>(H.eds x hx).own ho (fun z hz=>hno x.feet (by have:=aU.memN hx;simp only[List.mem_cons];exact .inr (.inr (.inr (.inr this)))) (List.mem_append_right _ (aU.memN hx)) z hz),H.ho.own ho (hno [K.h,K.hm] (by simp) (by simp) _ (by simp)) (hno [K.h,K.hm] (by simp) (by simp) _ (by simp)),
  H.bi.own ho (hno (aZ K.bb K.bv) (by simp) (by simp)),hR,hap,fun z hz=>?_,H.nd,H.few,hn⟩,hft⟩
 obtain⟨a,ha,hy⟩:=List.mem_flatten.1 hz;simp only[aU.parts,List.mem_cons]at ha;have hq: ∀b,b∈K.parts->z∈b->z<w'.heap.size:=fun b hb hzb=>Nat.lt_of_lt_of_le (H.lt z (aU.part hb hzb)) ho.size
 rcases ha with rfl|rfl|rfl|rfl|rfl|ha
 ·exact hq [K.p] (by simp[aU.parts]) hy
 ·exact hq [K.m] (by simp[aU.parts]) hy
 ·exact hq [K.h,K.hm] (by simp[aU.parts]) hy
 ·exact hq (aZ K.bb K.bv) (by simp[aU.parts]) hy
 ·exact hb z hy
 ·exact hq a (by simp only[aU.parts,List.mem_cons];exact .inr (.inr (.inr (.inr (.inr ha))))) hy
end Go.Proofs.YtedcakchekaemaaGreatDoor
namespace Go.Proofs.YtedcakchekaemaaGreatDoor
open Go.RowKit
theorem vN(w:World):(zeroValue 78).run Tryz.prog w=.ok (.pointer none) w:=by kernel_rfl
theorem Pp(p b m h bb r:Nat)(asked:Int)(x:sI)(w:World)(hx:aQ w b x)(hp:w.heap[p]?=some (.cells #[.map (some m),aK h,aK bb,aK r,.int .i64 asked] 73 (0,0)))
  (hM:cu bT w m [])(hg:(x.s.g.toList==[])=false)(hn:(x.s.n.toList==[])=false)(hbp:b≠p)(wF:b≠m)(hpm:p≠m):
  Calls Tryz.prog 55 #[aK p,aK b] w fun e w'=>e=.returned (.bool true)/\ ∃n rr a,w.heap.size<=n/\w.heap.size<=rr/\n≠rr/\
   aQ w' b {x with vg:=x.s.g,node:=.pointer (some ⟨n,0,none⟩)}/\mg w' n rr a x.s.g x.s.n false/\cu bT w' m [((x.s.g,x.s.n),.pointer (some ⟨n,0,none⟩))]/\ai [b,m] w w':=by
 obtain⟨c0,c1,c2,c3,c4,c5,c6,c7,c8,c9,c10,c11,c12,c13⟩:=bE hx;have p0:w.cell? ⟨p,0,none⟩=some (.map (some m)):=by rw[cell_of_row _ _ _ _ _ _ hp];rfl
 have cN:=af fun W=>JN x.s.g x.s.n hg hn W
 go_enter Tryz.func55,Tryz.ntmps55
 have hA1:=(ai.refl [] w).alloc (.cells #[.string ⟨#[]⟩,.string ⟨#[]⟩] 87);have hx1:=hx.own hA1 (by simp);obtain⟨d0,d1,d2,d3,d4,d5,d6,d7,d8,d9,zh,Ak,Al,BG⟩:=bE hx1;go_wp2_with fail
 go_region
 all_goals
  generalize hW1:World.alloc _ _=W1;have aH:ai [] w W1:=by rw[<-hW1];first|exact(ai.refl [] w).drew.alloc _|exact((ai.refl [] w).alloc _).drew|exact(ai.refl [] w).alloc _
  have hk1:W1.drew.heap[w.heap.size]?=some (.cells #[.string x.s.g,.string x.s.n] 87 (0,0)):=by rw[<-hW1];exact heap_alloc_new _ _
  have hO2:ai [] w W1.drew:=aH.drew;clear aH hW1 hx1 hA1 d0 d1 d2 d3 d4 d5 d6 d7 d8 d9 zh Ak Al BG;generalize W1.drew=W2 at*;obtain⟨kb,hkb⟩: ∃kb,kb=w.heap.size:=⟨_,rfl⟩;rw[<-hkb]at hk1⊢;have hbl:=aj hx;have hpl:=aj hp;have hml:=hM.lt;have hbk:b<kb:=by omega
  have hpk:p<kb:=by omega
  have hmk:m<kb:=by omega
  have WJ:w.heap.size<=kb:=by omega
  clear hkb hbl hpl hml;have hE2:=hx.own hO2 (by simp);have ji:aQ (W2.setCell ⟨b,11,none⟩ (.string x.s.g)) b {x with vg:=x.s.g}:=by
   have:=heap_setCell_same _ b 11 _ _ (.string x.s.g) hE2;simpa[aQ]using this
  have hO3:ai [b] w (W2.setCell ⟨b,11,none⟩ (.string x.s.g)):=(hO2.nil).setCell (.inl (by simp)) _;have dI:ai [b] W2 (W2.setCell ⟨b,11,none⟩ (.string x.s.g)):=(ai.refl _ _).setCell (.inl (by simp)) _;have Uj:=frozen_of_row _ b 11 _ _ hE2;have b11:=(bE hE2).2.2.2.2.2.2.2.2.2.2.2.1;have k0:W2.cell? ⟨kb,0,none⟩=some (.string x.s.g):=cell_of_row _ kb 0 _ _ _ hk1;have k1:W2.cell? ⟨kb,1,none⟩=some (.string x.s.n):=cell_of_row _ kb 1 _ _ _ hk1;have hk3:=dI.heap hk1 (by simp;omega);have hp3:=hO3.heap hp (by simpa using hbp.symm);have dY:=hM.own hO3 (by simpa using wF.symm);clear c0 c1 c2 c3 c4 c5 c6 c7 c8 c9 c10 c11 c12 c13 p0;generalize hW3:W2.setCell ⟨b,11,none⟩ (.string x.s.g)=W3 at*;have f0:W3.cell? ⟨kb,0,none⟩=some (.string x.s.g):=cell_of_row _ kb 0 _ _ _ hk3;have f1:W3.cell? ⟨kb,1,none⟩=some (.string x.s.n):=cell_of_row _ kb 1 _ _ _ hk3;have q0:W3.cell? ⟨p,0,none⟩=some (.map (some m)):=by rw[cell_of_row _ _ _ _ _ _ hp3];rfl
  have hlk:=dY.lookup_no fP gG (x.s.g,x.s.n) (vN W3) rfl true;have hlk2:=(dY.own ((ai.refl [] W3).drew) (by simp)).lookup_no fP gG (x.s.g,x.s.n) (vN W3.drew) rfl true;simp only[bT,if_true]at hlk hlk2;go_wp2_with fail
  go_region
  all_goals
   go_wp2_with fail
   refine(cN.out _).mono ?_;rintro e w4 ⟨n,rr,a,rfl,hO4,hn1,hnr,hr1,hF⟩;have kr:ai [] W3 w4:=(ai.refl [] W3).drew.trans hO4;have hn2:W3.heap.size<=n:=by simpa using hn1
   have hr2:W3.heap.size<=rr:=by simpa using hr1
   have hz2:=hO2.size;have hz3:=hO3.size;have hk4:=kr.heap hk3 (by simp);have za:=kr.heap hp3 (by simp);have Am:=dY.own kr (by simp);have jN:=ji.own kr (by simp);have hb3:=aj ji;have g0:w4.cell? ⟨kb,0,none⟩=some (.string x.s.g):=cell_of_row _ kb 0 _ _ _ hk4;have g1:w4.cell? ⟨kb,1,none⟩=some (.string x.s.n):=cell_of_row _ kb 1 _ _ _ hk4;have r0:w4.cell? ⟨p,0,none⟩=some (.map (some m)):=by rw[cell_of_row _ _ _ _ _ _ za];rfl
   have hlen:=Am.len_run (P:=Tryz.prog) gG;obtain⟨w5,hu,ZJ,iw,hs5⟩:=(Am.own ((ai.refl [] w4).drew) (by simp)).update fP gG (x.s.g,x.s.n) (.pointer (some ⟨n,0,none⟩));simp only[bT,List.length_nil]at hu hlen;have aB:ai [m] w4 w5:=(ai.refl [m] w4).drew.trans iw;have hml:=Am.lt;have iF:=jN.own aB (by simpa using wF);have hF5:mg w5 n rr a x.s.g x.s.n false:=by
    have hm3:=dY.lt;exact⟨aB.heap hF.1 (by simp;omega),aB.heap hF.2 (by simp;omega)⟩
   have z9:=frozen_of_row _ b 9 _ _ iF;have b9:=(bE iF).2.2.2.2.2.2.2.2.2.1;clear hlk hlk2 f0 f1 q0 cN;go_wp2_with fail
   go_region
   all_goals
    go_wp2_with fail
    go_ret
    have bI:ai [b] w5 (w5.setCell ⟨b,9,none⟩ (.pointer (some ⟨n,0,none⟩))):=(ai.refl _ _).setCell (.inl (by simp)) _;have Ez:aQ (w5.setCell ⟨b,9,none⟩ (.pointer (some ⟨n,0,none⟩))) b {x with vg:=x.s.g,node:=.pointer (some ⟨n,0,none⟩)}:=by
     have:=heap_setCell_same _ b 9 _ _ (.pointer (some ⟨n,0,none⟩)) iF;simpa[aQ]using this
    exact⟨rfl,n,rr,a,by omega,by omega,hnr,Ez,⟨bI.heap hF5.1 (by simp;omega),bI.heap hF5.2 (by simp;omega)⟩,ZJ.own bI (by simpa using wF.symm),
     (((hO3.mono (by simp)).trans kr.nil).trans (aB.mono (by simp))).trans (bI.mono (by simp))⟩
end Go.Proofs.YtedcakchekaemaaGreatDoor
namespace Go.Proofs.YtedcakchekaemaaGreatDoor
open Go.RowKit
variable [Kd]
structure TK (w0 w:World) (K0 K:aU) (eb:Nat) (x:sI):Prop where
 sk:bq w K
 en:aQ w eb x
 ap:eb∉K.feet
 own:ai K0.feet w0 w
 new: ∀z∈K.feet,z∈K0.feet\/w0.heap.size<=z
 eb0:w0.heap.size<=eb
 pe:K.p=K0.p
theorem TK.step{w0 w w':World}{K0 K K':aU}{eb:Nat}{x y:sI}(H:TK w0 w K0 K eb x)(hs:bq w' K')(he:aQ w' eb y)(ho:ai (eb::K.feet) w w')(hf: ∀z∈K'.feet,z∈K.feet\/w.heap.size<=z)(hp:K'.p=K.p):TK w0 w' K0 K' eb y:=by
 have hel:=aj H.en;have hsz:=H.own.size;refine⟨hs,he,fun hx=>?_,H.own.trans' ho (fun z hz=>?_),fun z hz=>?_,H.eb0,hp.trans H.pe⟩
 ·rcases hf eb hx with h1|h1
  ·exact H.ap h1
  ·omega
 ·rcases List.mem_cons.1 hz with rfl|hz
  ·exact .inr H.eb0
  ·exact H.new z hz
 ·rcases hf z hz with h1|h1
  ·exact H.new z h1
  ·exact .inr (by omega)
theorem aU.p_mem(K:aU):K.p∈K.feet:=aU.part (a:=[K.p]) (by simp[aU.parts]) (by simp)
theorem aU.m_mem(K:aU):K.m∈K.feet:=aU.part (a:=[K.m]) (by simp[aU.parts]) (by simp)
theorem aU.h_mem(K:aU):K.h∈K.feet/\K.hm∈K.feet:=⟨aU.part (a:=[K.h,K.hm]) (by simp[aU.parts]) (by simp),aU.part (a:=[K.h,K.hm]) (by simp[aU.parts]) (by simp)⟩
theorem aU.b_mem(K:aU): ∀z∈aZ K.bb K.bv,z∈K.feet:=fun z hz=>aU.part (a:=aZ K.bb K.bv) (by simp[aU.parts]) hz
theorem aU.r_mem(K:aU): ∀z∈K.RB,z∈K.feet:=fun z hz=>aU.part (a:=K.RB) (by simp[aU.parts]) hz
theorem aU.n_mem{K:aU}{x:gy}(hx:x∈K.NS): ∀z∈x.feet,z∈K.feet:=fun z hz=>aU.part (a:=x.feet) (by have:=aU.memN hx;simp only[aU.parts,List.mem_cons];exact .inr (.inr (.inr (.inr (.inr this))))) hz
theorem bq.c{w:World}{K:aU}(H:bq w K):w.cell? ⟨K.p,0,none⟩=some (.map (some K.m))/\w.cell? ⟨K.p,1,none⟩=some (aK K.h)/\w.cell? ⟨K.p,2,none⟩=some (aK K.bb)/\w.cell? ⟨K.p,3,none⟩=some (aK K.r)/\w.cell? ⟨K.p,4,none⟩=some (.int .i64 K.asked):=
 ⟨cell_of_row _ _ 0 _ _ _ H.sp,cell_of_row _ _ 1 _ _ _ H.sp,cell_of_row _ _ 2 _ _ _ H.sp,cell_of_row _ _ 3 _ _ _ H.sp,cell_of_row _ _ 4 _ _ _ H.sp⟩
theorem bq.disjH{w:World}{K:aU}(H:bq w K):K.p≠K.h/\K.p≠K.hm:=by
 have hn:=nQ (A:=[[K.p],[K.m]]) (C:=[K.h,K.hm]) (B:=aZ K.bb K.bv::K.RB::K.NS.map gy.feet) H.apart;have:=hn [K.p] (by simp) K.p (by simp);simpa using this
theorem aQ.setc{w:World}{b:Nat}{x y:sI}(h:aQ w b x)(i:Nat)(u:Value)(hy: ∀w',w'.heap[b]?=some (.cells ((#[.int .i64 x.at',.string x.topic,.string x.text,.int .i64 x.qos,.bool x.ret,.int .i64 x.s.k,.string x.s.g,.string x.s.n,.string x.s.d,x.node,.int .i64 x.code,.string x.vg,.string x.vn,.bool x.ask]:Array Value).setIfInBounds i u) 80 (0,0))->aQ w' b y):
  aQ (w.setCell ⟨b,i,none⟩ u) b y/\ai [b] w (w.setCell ⟨b,i,none⟩ u)/\w.frozen? ⟨b,i,none⟩=false:=
 ⟨hy _ (heap_setCell_same _ b i _ _ u h),(ai.refl _ _).setCell (.inl (by simp)) _,frozen_of_row _ b i _ _ h⟩
theorem GA(K:aU)(eb:Nat)(x:sI)(w:World)(H:bq w K)(hx:aQ w eb x)(hap:eb∉K.feet)(h9:x.s.k=9):
  Calls Tryz.prog 54 #[aK K.p,aK eb] w fun e w'=>e=.returned (.bool false)/\bq w' {K with hs:=(jS K.hs x.s.n x.text).2}/\aQ w' eb {x with vn:=x.s.n,code:=(jS K.hs x.s.n x.text).1}/\ai [eb,K.h,K.hm] w w':=by
 obtain⟨⟨rc,rs⟩,hR⟩: ∃R,jS K.hs x.s.n x.text=R:=⟨_,rfl⟩;rw[hR];simp only;obtain⟨c0,c1,c2,c3,c4,c5,c6,c7,c8,c9,c10,c11,c12,c13⟩:=bE hx;obtain⟨hE1,aH,z12⟩:=hx.setc (y:={x with vn:=x.s.n}) 12 (.string x.s.n) (fun w' h=>h);have hpe:K.p≠eb:=fun e=>hap (by rw[<-e];exact K.p_mem)
 have hhe:K.h≠eb:=fun e=>hap (by rw[<-e];exact K.h_mem.1)
 have hme:K.hm≠eb:=fun e=>hap (by rw[<-e];exact K.h_mem.2)
 have hdj:=H.disjH;have H1:bq (w.setCell ⟨eb,12,none⟩ (.string x.s.n)) K:=H.own aH (fun z hz hc=>by simp at hc;subst hc;exact hap hz);go_enter Tryz.func54,Tryz.ntmps54
 go_upto_region 2 with(fail)
 generalize(w.setCell ⟨eb,12,none⟩ (.string x.s.n))=W at*;obtain⟨d0,d1,d2,d3,d4,d5,d6,d7,d8,d9,zh,Ak,Al,BG⟩:=bE hE1;simp only at d0 d1 d2 d5 d7 zh;rw[h9]at d5;have hT:=take_any K.h K.hm K.hs W.drew x.s.n x.text (H1.ho.own (S:=[]) (ai.refl [] W).drew (by simp) (by simp));have hS:Hid (∀W' y,ai [eb,K.h,K.hm] W W'->aQ W' eb y->y.s=x.s->y.text=x.text->W'.cell? ⟨K.p,1,none⟩=some (aK K.h)/\W'.cell? ⟨eb,7,none⟩=some (.string x.s.n)/\W'.cell? ⟨eb,2,none⟩=some (.string x.text)):=af (fun W' y ho hy qs qt=>by
  obtain⟨e0,e1,e2,e3,e4,e5,e6,e7,e8,e9,e10,e11,e12,e13⟩:=bE hy;rw[qs]at e7;rw[qt]at e2;exact⟨cell_of_row _ _ 1 _ _ _ (ho.heap H1.sp (by simp;exact⟨hpe,hdj.1,hdj.2⟩)),e7,e2⟩)
 have kW:=hS.out W _ (ai.refl _ _) hE1 rfl rfl;have Ib:=hS.out W.drew _ ((ai.refl _ _).drew) (hE1.own (S:=[]) (ai.refl [] W).drew (by simp)) rfl rfl;rw[hR]at hT;unfold kN at hT;simp only at hT;change Hid _ at hR H1;replace hT:=af hT;replace aH:=af aH;clear c0 c1 c2 c3 c4 c5 c6 c7 c8 c9 c10 c11 c12 c13 H hx;go_wp2_with fail
 go_region_held3(fun W'=>W'.cell? ⟨K.p,1,none⟩=some (aK K.h)/\W'.cell? ⟨eb,7,none⟩=some (.string x.s.n)/\W'.cell? ⟨eb,2,none⟩=some (.string x.text)) (first|with_reducible exact kA|with_reducible exact kB|with_reducible exact Ib|with_reducible exact kW|go_keep)
  ((go_at_call 92;(with_reducible refine hT.out.mono ?_);rintro e w3 ⟨rfl,hH3,hO3⟩;have eu:=((ai.refl [K.h,K.hm] W).drew).trans hO3;have dw:ai [eb,K.h,K.hm] W w3:=eu.mono (by intro z hz;exact List.mem_cons_of_mem _ hz);have ji:=hE1.own eu (by simp;exact⟨Ne.symm hhe,Ne.symm hme⟩);have kA:=hS.out _ _ dw ji rfl rfl;obtain⟨jN,hO4,XU⟩:=ji.setc (y:={x with vn:=x.s.n,code:=rc}) 10 (.int .i64 rc) (fun w' h=>h);have aB:=dw.trans (hO4.mono (by intro z hz;simp at hz;subst hz;simp));have kB:=hS.out _ _ aB jN rfl rfl;have f10:=(bE ji).2.2.2.2.2.2.2.2.2.2.1))
 all_goals
  have lW:=(H1.out.hosts hH3 eu).own hO4 (fun z hz hc=>by
   simp at hc;subst hc;exact hap hz)
  change Hid _ at lW;have o6:=af ((aH.out.mono (by intro z hz;simp at hz;subst hz;simp):ai [eb,K.h,K.hm] w W).trans aB);change Hid _ at jN;clear kA kB kW Ib hS hT hH3 hO3 eu dw ji;go_wp2_with fail
  go_ret
  exact⟨rfl,lW.out,jN.out,o6.out⟩
end Go.Proofs.YtedcakchekaemaaGreatDoor
namespace Go.Proofs.YtedcakchekaemaaGreatDoor
open Go.RowKit Go.Sort
variable [Kd]
def Gr(w w':World):Prop:= ∃q os',w'=grow (w.drewN q) os'
theorem Gr.refl(w:World):Gr w w:=⟨0,#[],by unfold grow;simp;rfl⟩
theorem Gr.alloc{w w':World}(h:Gr w w')(o:Obj):Gr w (w'.alloc o):=by
 obtain⟨q,os,rfl⟩:=h;exact⟨q,os++#[o],by rw[alloc_eq_grow,grow_grow]⟩
theorem Gr.drew{w w':World}(h:Gr w w'):Gr w w'.drew:=by
 obtain⟨q,os,rfl⟩:=h;exact⟨q+1,os,rfl⟩
theorem Gr.trans{a b c:World}(h:Gr a b)(k:Gr b c):Gr a c:=by
 obtain⟨q,os,rfl⟩:=h;obtain⟨r,os',rfl⟩:=k;exact⟨q+r,os++os',by unfold grow World.drewN;simp[Array.append_assoc,Nat.add_assoc]⟩
theorem Gr.own{w w':World}(h:Gr w w'):ai [] w w':=by
 obtain⟨q,os,rfl⟩:=h;refine⟨rfl,rfl,rfl,by unfold grow World.drewN;simp,fun j hj _=>?_⟩;unfold grow World.drewN;exact Array.getElem?_append_left hj
structure kV where
 g:ByteArray
 nm:ByteArray
 s:EN
 a:Option Addr
 cap:Nat
 va:Option Addr
 vc:Nat
 V:List DV
instance:Inhabited kV:=⟨⟨⟨#[]⟩,⟨#[]⟩,⟨false,0,0,false,false,[],[],[]⟩,none,0,none,0,[]⟩⟩
def ug(x:kV):List Value:=[.string x.g,.string x.nm,.bool x.s.online,.int .i64 (Yw x.s),.int .i64 (zT x.s),.bool x.s.pending,.slice x.a x.s.items.length x.cap,.slice x.va x.V.length x.vc]
theorem qz(x:kV):(ug x).length=8:=rfl
theorem YC:(Tryz.prog.info? 38).map (fun i=>(i.zero,i.size,i.bytes))=some (some (.agg #[.string ⟨#[]⟩,.string ⟨#[]⟩,.bool false,.int .i64 0,.int .i64 0,.bool false,.slice none 0 0,.slice none 0 0]),8,112):=by kernel_rfl
theorem Ve:je Tryz.prog 33 38 ug 8 112 where
 ut:=Tryz.underlying33
 info:=by obtain⟨i,h1,h2,h3,h4⟩:=info_parts YC;exact⟨i,_,h1,h2,h3,h4,rfl⟩
 pos:=by omega
 len:=qz
 one x u hu:=by simp only[ug,List.mem_cons,List.not_mem_nil,or_false]at hu;rcases hu with rfl|rfl|rfl|rfl|rfl|rfl|rfl|rfl<;>rfl
def kV.key(x:kV):Rk:=(x.g,x.nm)
def kV.say(x:kV):Rk×EN:=(x.key,x.s)
def kV.feet(x:kV):List Nat:=(x.a.map (·.block)).toList++(Value.slice x.va x.V.length x.vc).ownBlock.toList++x.V.flatMap fun v=>(v.a.map (·.block)).toList
structure jM (B:Nat) (w:World) (x:kV):Prop where
 out:aI B w x.a x.cap x.s.items
 sl:Sl 46 vX 3 B w (.slice x.va x.V.length x.vc) x.V
 dvs:XH B w x.V x.s.dev
theorem jM.own'{S:List Nat}{B:Nat}{w w':World}{x:kV}(h:jM B w x)(ho:ai S w w')(hS: ∀b∈x.feet,b∉S):jM B w' x:=by
 refine⟨h.out.own' ho (fun b hb=>hS b ?_),h.sl.own ho (fun b hb=>hS b ?_),h.dvs.1,fun i v y hv hy=>?_⟩
 ·unfold kV.feet;simp only[List.mem_append,Option.mem_toList];exact .inl (.inl hb)
 ·unfold kV.feet;simp only[List.mem_append,Option.mem_toList];exact .inl (.inr hb)
 ·obtain⟨k1,k2,k3,k4⟩:=h.dvs.2 i v y hv hy
  refine⟨k1,k2,k3,k4.own' ho (fun b hb=>hS b ?_)⟩;unfold kV.feet;simp only[List.mem_append,List.mem_flatMap,Option.mem_toList];exact .inr ⟨v,List.mem_of_getElem? hv,hb⟩
theorem jM.nil'{B:Nat}{w w':World}{x:kV}(h:jM B w x)(ho:ai [] w w'):jM B w' x:=h.own' ho (by simp)
theorem jM.mono{B B':Nat}{w:World}{x:kV}(h:jM B w x)(hb:B'<=B):jM B' w x:=
 ⟨⟨h.out.own,fun q hq=>Nat.le_trans hb (h.out.fresh q hq),h.out.good⟩,h.sl.mono hb,h.dvs.1,fun i v y hv hy=>by
  obtain⟨k1,k2,k3,k4⟩:=h.dvs.2 i v y hv hy;exact⟨k1,k2,k3,⟨k4.own,fun q hq=>Nat.le_trans hb (k4.fresh q hq),k4.good⟩⟩⟩
theorem jM.feet{B:Nat}{w:World}{x:kV}(h:jM B w x): ∀b∈x.feet,B<=b/\b<w.heap.size:=fun b hb=>by
 unfold kV.feet at hb;simp only[List.mem_append,List.mem_flatMap,Option.mem_toList]at hb;rcases hb with(hb|hb)|⟨v,hv,hb⟩
 ·exact nJ h.out b hb
 ·exact h.sl.block hb
 ·obtain⟨i,hi⟩:=List.getElem?_of_mem hv
  have hil:i<x.s.dev.length:=by rw[<-h.dvs.1];exact(List.getElem?_eq_some_iff.1 hi).1
  exact nJ (h.dvs.2 i v _ hi (List.getElem?_eq_getElem hil)).2.2.2 b hb
theorem jM.vat{B:Nat}{w:World}{x:kV}(h:jM B w x)(hf:x.s.items.length<=32)(hd:x.s.dev.length<=4)(hx: ∀y∈x.s.dev,y.items.length<=32):Va w x.s.items x.s.dev x.a x.va x.V/\x.V.length=x.s.dev.length:=V6 h.out h.sl h.dvs hf hd hx
theorem Hf(x:gy)(w:World)(h:au w x.blk x.g x.n x.L x.s):Calls Tryz.prog 25 #[aK x.blk] w fun e w'=> ∃v:kV,e=.returned (.agg #[.string v.g,.string v.nm,.bool v.s.online,.int .i64 (Yw v.s),.int .i64 (zT v.s),.bool v.s.pending,.slice v.a v.s.items.length v.cap,.slice v.va v.V.length v.vc])/\Aside (v.say=(x.key,x.s)/\jM w.heap.size w' v)/\ai [] w w':=by
 refine(O5 x.blk x.g x.n x.L x.s w h).mono ?_;rintro e w' ⟨a,cap,vv,V,rfl,h1,h2,h3,h4⟩;obtain⟨va,vc,rfl⟩:=h2.sl;exact⟨⟨x.g,x.n,x.s,a,cap,va,vc,V⟩,rfl,⟨rfl,h1,h2,h3⟩,h4⟩
def Qk(x y:kV):Int:=XI (lq x.g y.g) (lq x.nm y.nm)
theorem Ql(x0 x1 y0 y1:ByteArray)(xb yb:Bool)(xi xj yi yj:Int)(xp yp:Bool)(xs xt ys yt:Value)(w:World):Calls Tryz.prog 27 #[.agg #[.string x0,.string x1,.bool xb,.int .i64 xi,.int .i64 xj,.bool xp,xs,xt],.agg #[.string y0,.string y1,.bool yb,.int .i64 yi,.int .i64 yj,.bool yp,ys,yt]] w fun e w'=>e=.returned (.int .i64 (XI (lq x0 y0) (lq x1 y1)))/\Gr w w':=by
 have hO:=((Gr.refl w).alloc (.cells #[.string x0,.string x1,.bool xb,.int .i64 xi,.int .i64 xj,.bool xp,xs,xt] 38)).alloc (.cells #[.string y0,.string y1,.bool yb,.int .i64 yi,.int .i64 yj,.bool yp,ys,yt] 38);have hb:=((ai.refl [] _).alloc (.cells #[.string y0,.string y1,.bool yb,.int .i64 yi,.int .i64 yj,.bool yp,ys,yt] 38)).heap (heap_alloc_new w (.cells #[.string x0,.string x1,.bool xb,.int .i64 xi,.int .i64 xj,.bool xp,xs,xt] 38)) (by simp);have hd:=heap_alloc2_new w (.cells #[.string x0,.string x1,.bool xb,.int .i64 xi,.int .i64 xj,.bool xp,xs,xt] 38) (.cells #[.string y0,.string y1,.bool yb,.int .i64 yi,.int .i64 yj,.bool yp,ys,yt] 38);have C:=af (fun u v W=>xP u v W);have cO:=af (fun x y q W h0 h1=>I8 x y q W h0 h1);have hx:Hid (∀W,Gr ((w.alloc (.cells #[.string x0,.string x1,.bool xb,.int .i64 xi,.int .i64 xj,.bool xp,xs,xt] 38)).alloc (.cells #[.string y0,.string y1,.bool yb,.int .i64 yi,.int .i64 yj,.bool yp,ys,yt] 38)) W->(W.cell? ⟨w.heap.size,0,none⟩=some (.string x0)/\W.cell? ⟨w.heap.size,1,none⟩=some (.string x1)/\W.cell? ⟨w.heap.size+1,0,none⟩=some (.string y0)/\W.cell? ⟨w.heap.size+1,1,none⟩=some (.string y1))/\Gr w W):=af fun W ho=>
  ⟨⟨cell_of_row _ _ 0 _ _ _ (ho.own.heap hb (by simp)),cell_of_row _ _ 1 _ _ _ (ho.own.heap hb (by simp)),cell_of_row _ _ 0 _ _ _ (ho.own.heap hd (by simp)),cell_of_row _ _ 1 _ _ _ (ho.own.heap hd (by simp))⟩,hO.trans ho⟩
 clear hO hb hd;go_enter Tryz.func27,Tryz.ntmps27
 go_wp2_with fail
 generalize((w.alloc (.cells #[.string x0,.string x1,.bool xb,.int .i64 xi,.int .i64 xj,.bool xp,xs,xt] 38)).alloc (.cells #[.string y0,.string y1,.bool yb,.int .i64 yi,.int .i64 yj,.bool yp,ys,yt] 38))=W0 at*;generalize hxb:w.heap.size=xb at*;have kW:=(hx.out W0 (Gr.refl _)).1;have Ib:=(hx.out W0.drew ((Gr.refl W0).drew)).1;go_region_held3(fun W=>W.cell? ⟨xb,0,none⟩=some (.string x0)/\W.cell? ⟨xb,1,none⟩=some (.string x1)/\W.cell? ⟨xb+1,0,none⟩=some (.string y0)/\W.cell? ⟨xb+1,1,none⟩=some (.string y1)) (first|with_reducible exact kW|with_reducible exact Ib|go_keep)
  ((first
    |(go_at_call 29;(with_reducible refine(C.out _ _ _).mono ?_);rintro e w2 ⟨rfl,rfl⟩)
    |(go_at_call 28;go_loud(refine(cO.out (lq x0 y0) (lq x1 y1) W0.heap.size _ (by first|exact cell_of_row _ _ 0 _ _ _ (heap_alloc_new _ _)|exact cell_of_row _ _ 0 _ _ _ (heap_alloc_new W0 _)) (by first|exact cell_of_row _ _ 1 _ _ _ (heap_alloc_new _ _)|exact cell_of_row _ _ 1 _ _ _ (heap_alloc_new W0 _))).mono ?_);rintro e w3 ⟨rfl,rfl⟩)))
 go_wp2_with fail
 go_ret
 exact⟨rfl,(hx.out _ ((Gr.refl W0).alloc _).drew).2⟩
theorem Qm(x y:kV)(W:World):Calls Tryz.prog 27 #[.agg (ug x).toArray,.agg (ug y).toArray] W fun e w'=>e=.returned (.int .i64 (Qk x y))/\ ∃q os',w'=grow (W.drewN q) os':=
 Ql x.g x.nm y.g y.nm _ _ _ _ _ _ _ _ _ _ _ _ W
end Go.Proofs.YtedcakchekaemaaGreatDoor
