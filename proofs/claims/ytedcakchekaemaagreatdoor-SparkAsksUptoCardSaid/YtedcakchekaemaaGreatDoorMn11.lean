import Derived.Test.YtedcakchekaemaaGreatDoorMn08
set_option maxRecDepth 100000
set_option maxHeartbeats 16000000
set_option linter.all false
namespace Go.Proofs.YtedcakchekaemaaGreatDoor
open Go.RowKit
variable [Kd]
theorem VJ{x:Int}(h0:0<=x)(h1:x<=18446744073709551615):wrap64 (Go.bits .and .u64 x 7)=x%8:=by
 obtain⟨n,rfl⟩:=Int.eq_ofNat_of_zero_le h0;have hn:n<18446744073709551616:=by omega
 have e:Go.bits .and .u64 (n:Int) (7:Int)=((n&&&7:Nat):Int):=by
  have hx:n&&&7<2^64:=Nat.lt_of_le_of_lt Nat.and_le_left (by omega);have h1':(BitVec.ofInt 64 (n:Int)).toNat=n:=by
   rw[BitVec.ofInt_natCast,BitVec.toNat_ofNat];exact Nat.mod_eq_of_lt (by omega)
  show IntKind.u64.wrap ((BitVec.ofInt 64 (n:Int)&&&BitVec.ofInt 64 (7:Int)).toNat:Int)=_;rw[BitVec.toNat_and,h1',show(BitVec.ofInt 64 (7:Int)).toNat=7 by decide,IntKind.wrap_u64];omega
 rw[e];have h7:n&&&7=n%8:=Nat.and_two_pow_sub_one_eq_mod n 3;rw[h7];unfold wrap64;omega
theorem Kn(W0 w:World)(r:Nat)(v fM aT:Value)(B:List Int)(s:tu)(num K:Int)(h:sK W0 w r v fM aT s)(hR:aA bL W0 v B)(hrb: ∀b,v.ownBlock=some b->b<W0.heap.size)(hc:eB v)(hB:ol B)(hl:B.length<=4096)(hi:s.at'<=B.length)(ul:s.out.length<=256):
  Calls Tryz.prog 256 #[.pointer (some ⟨r,0,none⟩),.int .i64 num,.int .i64 K] w (bS (iK B s num K) W0 r v):=by
 by_cases h0:K=0
 ·subst h0;exact FT W0 w r v fM aT B s num h hR hrb hc hB hl hi ul
 by_cases h1:K=1
 ·subst h1;exact FU W0 w r v fM aT B s num h hR hrb hc hB hl hi ul
 by_cases h2:K=2
 ·subst h2;exact FW W0 w r v fM aT B s num h hR hrb hc hB hl hi ul
 by_cases h5:K=5
 ·subst h5;exact FV W0 w r v fM aT B s num h hR hrb hc hB hl hi ul
 exact FX W0 w r v fM aT B s num K h h0 h1 h2 h5
theorem OA(W0 w:World)(r:Nat)(v fM aT:Value)(B:List Int)(s:tu)(h:sK W0 w r v fM aT s)(hR:aA bL W0 v B)(hrb: ∀b,v.ownBlock=some b->b<W0.heap.size)(hc:eB v)(hB:ol B)(hl:B.length<=4096)(hi:s.at'<=B.length)(ul:s.out.length<=256)(h8:s.op.length<=8):
  Calls Tryz.prog 209 #[.pointer (some ⟨r,0,none⟩)] w (bS (rE B s) W0 r v):=by
 have sM:=hR.nil' h.own;have cN:=sw r v _ _ B s.at' _ h.blk sM hc hB hl hi;unfold tF at cN;unfold rE;cases hv:nD B s.at' with
 |none=>
  rw[hv]at cN;simp only[Option.bind_none];unfold bS;have gV:=af h.own;replace cN:=af cN;clear hv h hR sM hrb hc hB;go_enter Tryz.func209,Tryz.ntmps209
  go_wp2_with fail
  refine cN.out.mono ?_;rintro e w1 ⟨⟨ec,ay,rfl⟩,hO⟩;have h1:(ec !=0)=true:=by simpa using ay
  have aH:=af (gV.out.trans hO);change Hid _ at ay;clear hO;go_wp2_with fail
  go_ret
  exact⟨⟨ec,ay.out,rfl⟩,aH.out⟩
 |some p=>
  obtain⟨x,j⟩:=p;obtain⟨hj1,hj2,hx0,hx1⟩:=jX hB hi hv;rw[hv]at cN;simp only[Option.bind_some];replace cN:=af cN;by_cases hn:x/8<1\/536870912<=x/8
  ·rw[if_pos hn]
   unfold bS;go_enter Tryz.func209,Tryz.ntmps209
   go_wp2_with fail
   refine cN.out.mono ?_;rintro e w1 ⟨rfl,hb1,hO⟩;have h1:=af (h.at' hb1 hO).own;clear hb1 hO h hR sM;go_wp2_with fail
   all_goals
    go_ret
    exact⟨⟨5,by decide,rfl⟩,h1.out⟩
  ·rw[if_neg hn]
   have hn1: ¬x/8<1:=fun hh=>hn (.inl hh)
   have hn2: ¬536870912<=x/8:=fun hh=>hn (.inr hh)
   clear hn;by_cases hk3:x%8=3
   ·rw[if_pos hk3]
    generalize ht:(if 8<=s.op.length then none else some (⟨j,s.op++[x/8],s.out⟩:tu))=t;change Hid _ at ht;have Ug:=VJ hx0 hx1;have e3:(x%8==3)=true:=by simpa using hk3
    go_enter Tryz.func209,Tryz.ntmps209
    go_wp2_with fail
    refine cN.out.mono ?_;rintro e w1 ⟨rfl,hb1,hO⟩;have h1:=h.at' hb1 hO;have c1:=FQ W0 w1 r v fM aT ⟨j,s.op,s.out⟩ (x/8) h1;rw[ht.out]at c1;replace c1:=af c1;clear hb1 hO h hR sM hB h1 hrb hc;go_wp2_with fail
    all_goals
     try rw[Ug]
     refine c1.out.mono ?_;intro e w2 hp;obtain⟨ev,rfl⟩: ∃ev,e=.returned ev:=by
      cases t with
      |none=>obtain⟨⟨ec,_,rfl⟩,_⟩:=hp;exact⟨_,rfl⟩
      |some s'=>obtain⟨rfl,_⟩:=hp;exact⟨_,rfl⟩
     change Hid _ at hp;go_wp2_with fail
     go_ret
     exact hp.out
   ·rw[if_neg hk3]
    by_cases hk4:x%8=4
    ·rw[if_pos hk4]
     generalize ht:(if s.op.getLast?=some (x/8)then some (⟨j,s.op.dropLast,s.out⟩:tu)else none)=t;change Hid _ at ht;have Ug:=VJ hx0 hx1;have e3:(x%8==3)=false:=by simpa using hk3
     have e4:(x%8==4)=true:=by simpa using hk4
     go_enter Tryz.func209,Tryz.ntmps209
     go_wp2_with fail
     refine cN.out.mono ?_;rintro e w1 ⟨rfl,hb1,hO⟩;have h1:=h.at' hb1 hO;have c1:=Oz W0 w1 r v fM aT ⟨j,s.op,s.out⟩ (x/8) h1 h8;rw[ht.out]at c1;replace c1:=af c1;clear hb1 hO h hR sM hB h1 hrb hc;go_wp2_with fail
     all_goals
      try rw[Ug]
      refine c1.out.mono ?_;intro e w2 hp;obtain⟨ev,rfl⟩: ∃ev,e=.returned ev:=by
       cases t with
       |none=>obtain⟨⟨ec,_,rfl⟩,_⟩:=hp;exact⟨_,rfl⟩
       |some s'=>obtain⟨rfl,_⟩:=hp;exact⟨_,rfl⟩
      change Hid _ at hp;go_wp2_with fail
      go_ret
      exact hp.out
    ·rw[if_neg hk4]
     generalize ht:iK B ⟨j,s.op,s.out⟩ (x/8) (x%8)=t;change Hid _ at ht;have Ug:=VJ hx0 hx1;have e3:(x%8==3)=false:=by simpa using hk3
     have e4:(x%8==4)=false:=by simpa using hk4
     go_enter Tryz.func209,Tryz.ntmps209
     go_wp2_with fail
     refine cN.out.mono ?_;rintro e w1 ⟨rfl,hb1,hO⟩;have h1:=h.at' hb1 hO;have c1:=Kn W0 w1 r v fM aT B ⟨j,s.op,s.out⟩ (x/8) (x%8) h1 hR hrb hc hB hl hj2 ul;rw[ht.out]at c1;replace c1:=af c1;clear hb1 hO h hR sM hB h1 hrb hc;go_wp2_with fail
     all_goals
      try rw[Ug]
      refine c1.out.mono ?_;intro e w2 hp;obtain⟨ev,rfl⟩: ∃ev,e=.returned ev:=by
       cases t with
       |none=>obtain⟨⟨ec,_,rfl⟩,_⟩:=hp;exact⟨_,rfl⟩
       |some s'=>obtain⟨rfl,_⟩:=hp;exact⟨_,rfl⟩
      change Hid _ at hp;go_wp2_with fail
      go_ret
      exact hp.out
theorem IW{n:Nat}{B:List Int}{i:Nat}{x:Int}{j:Nat}(hn:0<n)(h:uO n B i=some (x,j)):i<j/\j<=B.length:=by
 unfold uO at h;split at h
 ·simp only[Option.some.injEq,Prod.mk.injEq]at h;omega
 ·cases h
theorem RO{B:List Int}(hB:ol B){i:Nat}(hi:i<=B.length){num kind:Int}{f:bG}{j:Nat}(h:si B i num kind=some (f,j)):i<j/\j<=B.length:=by
 unfold si at h;split at h
 ·obtain⟨⟨x,n⟩,h1,h2⟩:=Option.map_eq_some_iff.1 h
  simp only[Prod.mk.injEq]at h2;have:=jX hB hi h1;omega
 ·split at h
  ·obtain⟨⟨x,n⟩,h1,h2⟩:=Option.bind_eq_some_iff.1 h
   have:=jX hB hi h1;simp only at h2;split at h2
   ·cases h2
   ·simp only[Option.some.injEq,Prod.mk.injEq]at h2
    omega
  ·split at h
   ·obtain⟨⟨x,n⟩,h1,h2⟩:=Option.map_eq_some_iff.1 h
    simp only[Prod.mk.injEq]at h2;have:=IW (by omega) h1;omega
   ·split at h
    ·obtain⟨⟨x,n⟩,h1,h2⟩:=Option.map_eq_some_iff.1 h
     simp only[Prod.mk.injEq]at h2;have:=IW (by omega) h1;omega
    ·cases h
theorem C8{B:List Int}(hB:ol B){s s':tu}(hi:s.at'<=B.length)(h8:s.op.length<=8)(ul:s.out.length<=256)(h:rE B s=some s'):s.at'<s'.at'/\s'.at'<=B.length/\s'.op.length<=8/\s'.out.length<=256:=by
 unfold rE at h;obtain⟨⟨x,j⟩,h1,h2⟩:=Option.bind_eq_some_iff.1 h;obtain⟨q1,q2,_,_⟩:=jX hB hi h1;simp only at h2;split at h2
 ·cases h2
 ·split at h2
  ·split at h2
   ·cases h2
   ·simp only[Option.some.injEq]at h2;subst h2
    refine⟨q1,q2,?_,ul⟩;simp only[List.length_append,List.length_singleton];omega
  ·split at h2
   ·split at h2
    ·simp only[Option.some.injEq]at h2;subst h2
     refine⟨q1,q2,?_,ul⟩;simp only[List.length_dropLast];omega
    ·cases h2
   ·unfold iK at h2
    obtain⟨⟨f,m⟩,h3,h4⟩:=Option.bind_eq_some_iff.1 h2;have:=RO hB q2 h3;simp only at h4;split at h4
    ·simp only[Option.some.injEq]at h4;subst h4
     exact⟨by simp only;omega,by simp only;omega,h8,ul⟩
    ·split at h4
     ·cases h4
     ·simp only[Option.some.injEq]at h4;subst h4
      refine⟨by simp only;omega,by simp only;omega,h8,?_⟩;simp only[List.length_append,List.length_singleton];omega
def jZ(t:Option (List bG))(W0:World)(e:Ending)(w':World):Prop:=
 match t with
 |some l=>(∃aT,e=.returned (.tuple #[aT,.int .i64 0])/\Sl 100 fL 4 W0.heap.size w' aT l)/\ai [] W0 w'
 |none=>(∃ec:Int,ec≠0/\e=.returned (.tuple #[.slice none 0 0,.int .i64 ec]))/\ai [] W0 w'
structure RP (W0 w:World) (r:Nat) (v:Value) (B:List Int) (t:Option (List bG)) (s:tu) (fM aT:Value):Prop where
 rd:sK W0 w r v fM aT s
 i:s.at'<=B.length
 op:s.op.length<=8
 out:s.out.length<=256
 now: ∃n,B.length-s.at'<=n/\rF B n s=t
theorem RP.step{W0 w w':World}{r:Nat}{v:Value}{B:List Int}{t:Option (List bG)}{s s':tu}{fM aT MF Ao:Value}(hB:ol B)(h:RP W0 w r v B t s fM aT)(hi:s.at'<B.length)(hn:rE B s=some s')(h':sK W0 w' r v MF Ao s'):
  RP W0 w' r v B t s' MF Ao/\s.at'<s'.at':=by
 obtain⟨q1,q2,q3,q4⟩:=C8 hB h.i h.op h.out hn;obtain⟨n,hn1,hn2⟩:=h.now;refine⟨⟨h',q2,q3,q4,?_⟩,q1⟩;cases n with
 |zero=>omega
 |succ n=>
  unfold rF at hn2;rw[if_pos hi,hn]at hn2;exact⟨n,by omega,hn2⟩
theorem RP.bad{W0 w:World}{r:Nat}{v:Value}{B:List Int}{t:Option (List bG)}{s:tu}{fM aT:Value}(h:RP W0 w r v B t s fM aT)(hi:s.at'<B.length)(hn:rE B s=none):t=none:=by
 obtain⟨n,hn1,hn2⟩:=h.now;cases n with
 |zero=>omega
 |succ n=>
  unfold rF at hn2;rw[if_pos hi,hn]at hn2;exact hn2.symm
theorem RP.done{W0 w:World}{r:Nat}{v:Value}{B:List Int}{t:Option (List bG)}{s:tu}{fM aT:Value}(h:RP W0 w r v B t s fM aT)(hi: ¬s.at'<B.length):t=if s.op=[]then some s.out else none:=by
 obtain⟨n,hn1,hn2⟩:=h.now;cases n with
 |zero=>exact hn2.symm
 |succ n=>
  unfold rF at hn2;rw[if_neg hi]at hn2;exact hn2.symm
theorem tH(W0:World)(v:Value)(B:List Int)(hR:aA bL W0 v B)(hrb: ∀b,v.ownBlock=some b->b<W0.heap.size)(hc:eB v)(hB:ol B)(hmx:B.length<=140737488351232):
  Calls Tryz.prog 164 #[v] W0 (jZ (sj B) W0):=by
 obtain⟨va,vc,rfl⟩:=hR.form;unfold sj;by_cases hl:4096<B.length
 ·rw[if_pos hl]
  unfold jZ;have hl':(4096:Int)<B.length:=by omega
  generalize B.length=N at*;clear hR hrb hc hB;go_enter Tryz.func164,Tryz.ntmps164
  go_wp2_with fail
  go_ret2
  exact⟨⟨3,by decide,rfl⟩,ai.refl _ _⟩
 ·rw[if_neg hl]
  have hl': ¬(4096:Int)<B.length:=by omega
  generalize ht:rF B B.length ⟨0,[],[]⟩=t;have hJ:RP W0 (W0.alloc (.cells (eF (.slice va B.length vc) 0 (.slice none 0 0) (.slice none 0 0)) 339)) W0.heap.size (.slice va B.length vc) B t ⟨0,[],[]⟩ (.slice none 0 0) (.slice none 0 0):=
   ⟨⟨(ai.refl _ _).alloc _,heap_alloc_new _ _,Nat.le_refl _,Sl.nil _ _ _,Sl.nil _ _ _,(fun g hg=>by cases hg),(fun g hg=>by cases hg),(fun g hg=>by cases hg)⟩,Nat.zero_le _,by simp,by simp,B.length,by simp,ht⟩
  change Hid _ at hJ;go_enter Tryz.func164,Tryz.ntmps164
  go_wp2_with fail
  go_loopg[5] B.length (fun g s5 wr=> ∃(s:tu) (fM aT:Value),g=B.length-s.at'/\Hid (RP W0 wr W0.heap.size (.slice va B.length vc) B t s fM aT))
  case atStart=>exact⟨_,_,_,rfl,hJ⟩
  case round=>
   obtain⟨s,fM,aT,rfl,hJ2⟩:=hrel;obtain⟨⟨c0,c1,c2,c3⟩,hf⟩:=Oq hJ2.out.rd.blk;obtain⟨oa,oc,rfl⟩:=hJ2.out.rd.op.sl;by_cases hi:s.at'<B.length
   ·have hi':(s.at':Int)<B.length:=by omega
    have cN:=OA W0 _ _ _ _ _ B s hJ2.out.rd hR hrb hc hB (by omega) hJ2.out.i hJ2.out.out hJ2.out.op;cases hn:rE B s with
    |none=>
     have htn:=hJ2.out.bad hi hn;subst htn;rw[hn]at cN;unfold bS at cN;unfold jZ;replace cN:=af cN;clear hR hrb hc hB hJ hJ2 hn;go_wp2_with fail
     refine cN.out.mono ?_;rintro e w1 ⟨⟨ec,ay,rfl⟩,hO⟩;have h1:(ec !=0)=true:=by simpa using ay
     change Hid _ at hO ay;go_wp2_with fail
     go_ret2
     exact⟨⟨ec,ay.out,rfl⟩,hO.out⟩
    |some s'=>
     rw[hn]at cN;unfold bS at cN;replace cN:=af cN;go_wp2_with fail
     refine cN.out.mono ?_;rintro e w1 ⟨rfl,MF,Ao,h'⟩;obtain⟨hJ3,hlt⟩:=hJ2.out.step hB hi hn h';have adV:=hJ3.i;change Hid _ at hJ3;clear hR hrb hc hB hJ hJ2 hn h' c0 c1 c2 c3 hf cN;go_wp2_with fail
     go_roundg(B.length-s'.at')
     case measure=>omega
     case rel=>exact⟨s',MF,Ao,rfl,hJ3⟩
   ·have hi': ¬(s.at':Int)<B.length:=by omega
    have htd:=hJ2.out.done hi;have hO:=af hJ2.out.rd.own;by_cases ho:s.op.length=0
    ·rw[if_pos (List.eq_nil_of_length_eq_zero ho)]at htd
     subst htd;unfold jZ;have hS:=af hJ2.out.rd.out;rw[ho]at c2;clear hR hrb hc hB hJ hJ2 ho;go_wp2_with fail
     go_ret2
     exact⟨⟨_,rfl,hS.out⟩,hO.out⟩
    ·rw[if_neg (fun hh=>ho (by rw[hh];rfl))]at htd
     subst htd;unfold jZ;have ho':(0:Int)<s.op.length:=by omega
     generalize s.op.length=n at*;clear hR hrb hc hB hJ hJ2 ho;go_wp2_with fail
     go_ret2
     exact⟨⟨2,by decide,rfl⟩,hO.out⟩
theorem IX: ∀(l:List Int),ol l->0<=lu l/\lu l<256^l.length
 | [],_=>by simp[lu]
 |c::r,h=>by
  obtain⟨c0,c1⟩:=h c (by simp);obtain⟨h0,h1⟩:=IX r (fun y hy=>h y (by simp[hy]));have e:(256:Int)^(r.length+1)=256*256^r.length:=by rw[Int.pow_succ,Int.mul_comm]
  unfold lu;rw[List.length_cons,e];omega
theorem C9{n:Nat}{B:List Int}(hB:ol B){i:Nat}{x:Int}{j:Nat}(h:uO n B i=some (x,j)):0<=x/\x<256^n:=by
 unfold uO at h;split at h
 ·rename_i hi
  simp only[Option.some.injEq,Prod.mk.injEq]at h;obtain⟨rfl,rfl⟩:=h;have:=IX ((B.drop i).take n) ((hB.drop i).take n);rw[List.length_take,List.length_drop,Nat.min_eq_left (by omega)]at this;exact this
 ·cases h
structure bG.Ok (f:bG):Prop where
 n0:1<=f.num
 n1:f.num<536870912
 k:f.kind=0\/f.kind=1\/f.kind=2\/f.kind=5
 v0:0<=f.val
 v1:f.val<=18446744073709551615
 t:f.text.size<=4096
theorem OB{B:List Int}(hB:ol B)(hl:B.length<=4096){i:Nat}(hi:i<=B.length){num kind:Int}(n0:1<=num)(n1:num<536870912){f:bG}{j:Nat}(h:si B i num kind=some (f,j)):f.Ok:=by
 unfold si at h;split at h
 ·rename_i hk
  obtain⟨⟨x,n⟩,h1,h2⟩:=Option.map_eq_some_iff.1 h;simp only[Prod.mk.injEq]at h2;obtain⟨rfl,rfl⟩:=h2;obtain⟨_,_,q3,q4⟩:=jX hB hi h1;exact⟨n0,n1,.inl hk,q3,q4,Nat.zero_le _⟩
 ·split at h
  ·rename_i hk
   obtain⟨⟨x,n⟩,h1,h2⟩:=Option.bind_eq_some_iff.1 h;simp only at h2;split at h2
   ·cases h2
   ·simp only[Option.some.injEq,Prod.mk.injEq]at h2
    obtain⟨rfl,rfl⟩:=h2;refine⟨n0,n1,.inr (.inr (.inl hk)),Int.le_refl _,(by show(0:Int)<=_;omega),?_⟩;show(strOfNums _).size<=4096;rw[xB,List.length_take,List.length_drop];omega
  ·split at h
   ·rename_i hk
    obtain⟨⟨x,n⟩,h1,h2⟩:=Option.map_eq_some_iff.1 h;simp only[Prod.mk.injEq]at h2;obtain⟨rfl,rfl⟩:=h2;obtain⟨q1,q2⟩:=C9 hB h1;have e:(256:Int)^8=18446744073709551616:=by decide
    exact⟨n0,n1,.inr (.inl hk),q1,by show x<=_;omega,Nat.zero_le _⟩
   ·split at h
    ·rename_i hk
     obtain⟨⟨x,n⟩,h1,h2⟩:=Option.map_eq_some_iff.1 h;simp only[Prod.mk.injEq]at h2;obtain⟨rfl,rfl⟩:=h2;obtain⟨q1,q2⟩:=C9 hB h1;have e:(256:Int)^4=4294967296:=by decide
     exact⟨n0,n1,.inr (.inr (.inr hk)),q1,by show x<=_;omega,Nat.zero_le _⟩
    ·cases h
theorem Ko{B:List Int}(hB:ol B)(hl:B.length<=4096){s s':tu}(hi:s.at'<=B.length)(ho: ∀f∈s.out,f.Ok)(h:rE B s=some s'): ∀f∈s'.out,f.Ok:=by
 unfold rE at h;obtain⟨⟨x,j⟩,h1,h2⟩:=Option.bind_eq_some_iff.1 h;obtain⟨q1,q2,_,_⟩:=jX hB hi h1;simp only at h2;split at h2
 ·cases h2
 ·rename_i hn
  split at h2
  ·split at h2
   ·cases h2
   ·simp only[Option.some.injEq]at h2;subst h2;exact ho
  ·split at h2
   ·split at h2
    ·simp only[Option.some.injEq]at h2;subst h2;exact ho
    ·cases h2
   ·unfold iK at h2
    obtain⟨⟨f,m⟩,h3,h4⟩:=Option.bind_eq_some_iff.1 h2;have hf:=OB hB hl q2 (by omega) (by omega) h3;simp only at h4;split at h4
    ·simp only[Option.some.injEq]at h4;subst h4;exact ho
    ·split at h4
     ·cases h4
     ·simp only[Option.some.injEq]at h4;subst h4
      intro g hg;rcases List.mem_append.1 hg with hg|hg
      ·exact ho g hg
      ·rw[List.mem_singleton]at hg;subst hg;exact hf
theorem Da{B:List Int}(hB:ol B)(hl:B.length<=4096): ∀(n:Nat) (s:tu),s.at'<=B.length->s.op.length<=8->s.out.length<=256->(∀f∈s.out,f.Ok)-> ∀l,rF B n s=some l->l.length<=256/\ ∀f∈l,f.Ok
 |0,s,_,_,h3,h4,l,h=>by
  unfold rF at h;split at h
  ·simp only[Option.some.injEq]at h;subst h;exact⟨h3,h4⟩
  ·cases h
 |n+1,s,h1,h2,h3,h4,l,h=>by
  unfold rF at h;split at h
  ·obtain⟨s',e,h5⟩:=Option.bind_eq_some_iff.1 h
   obtain⟨_,q2,q3,q4⟩:=C8 hB h1 h2 h3 e;exact Da hB hl n s' q2 q3 q4 (Ko hB hl h1 h4 e) l h5
  ·split at h
   ·simp only[Option.some.injEq]at h;subst h;exact⟨h3,h4⟩
   ·cases h
theorem mG{B:List Int}(hB:ol B){l:List bG}(h:sj B=some l):l.length<=256/\ ∀f∈l,f.Ok:=by
 unfold sj at h;split at h
 ·cases h
 ·exact Da hB (by omega) _ _ (Nat.zero_le _) (by simp) (by simp) (by simp) l h
theorem tJ{l:List bG}(h: ∀f∈l,f.Ok)(n:Int): ∀f∈aX l n,f.Ok:=fun f hf=>h f (List.mem_filter.1 hf).1
theorem pY(l:List bG)(n:Int):(aX l n).length<=l.length:=List.length_filter_le _ _
theorem bG.Ok.len{f:bG}(h:f.Ok):(ak f.text).length<=4096:=by rw[dM];exact h.t
theorem VK{w:World}{b:Nat}{f:bG}(h:w.heap[b]?=some (.cells (fL f).toArray 100 (0,0))):
  w.cell? ⟨b,0,none⟩=some (.int .i64 f.num)/\w.cell? ⟨b,1,none⟩=some (.int .i64 f.kind)/\w.cell? ⟨b,2,none⟩=some (.int .u64 f.val)/\w.cell? ⟨b,3,none⟩=some (.string f.text):=
 ⟨cell_of_row _ _ 0 _ _ _ h,cell_of_row _ _ 1 _ _ _ h,cell_of_row _ _ 2 _ _ _ h,cell_of_row _ _ 3 _ _ _ h⟩
theorem aA.fld{w:World}{a:Option Addr}{n c:Nat}{l:List bG}(h:aA fL w (.slice a n c) l){k:Nat}(hk:k<l.length):
  ∃b o,a=some ⟨b,o,none⟩/\w.cell? ⟨b,o+k*4,none⟩=some (.int .i64 l[k].num)/\w.cell? ⟨b,o+k*4+1,none⟩=some (.int .i64 l[k].kind)/\w.cell? ⟨b,o+k*4+2,none⟩=some (.int .u64 l[k].val)/\w.cell? ⟨b,o+k*4+3,none⟩=some (.string l[k].text):=by
 obtain⟨b,o,rfl,hx⟩:=h.at_ dX (by omega);have e:=List.getElem?_eq_getElem hk;refine⟨b,o,rfl,hx k _ 0 _ e rfl,?_,?_,?_⟩
 ·have:=hx k _ 1 _ e rfl;rwa[<-Nat.add_assoc]at this
 ·have:=hx k _ 2 _ e rfl;rwa[<-Nat.add_assoc]at this
 ·have:=hx k _ 3 _ e rfl;rwa[<-Nat.add_assoc]at this
theorem uR{l:List bG}{n:Int}{k:Nat}(hk:k<l.length):aX (l.take (k+1)) n=aX (l.take k) n++(if l[k].num==n then[l[k]]else[]):=by
 unfold aX;rw[List.take_succ_eq_append_getElem hk,List.filter_append]
 congr 1
 by_cases h:l[k].num==n<;>simp[h]
theorem OC(f:bG)(num:Int)(nb:Nat)(w:World)(hn:w.cell? ⟨nb,0,none⟩=some (.int .i64 num)):
  Calls Tryz.prog 212 #[.agg (fL f).toArray,.pointer (some ⟨nb,0,none⟩)] w fun e w'=>e=.returned (.bool (f.num==num))/\w'=w.alloc (.cells (fL f).toArray 100):=by
 obtain⟨a,b,c,d⟩:=f;unfold fL;have hlt:=block_lt_of_cell hn;have hk2:(w.alloc (.cells #[.int .i64 a,.int .i64 b,.int .u64 c,.string d] 100)).cell? ⟨nb,0,none⟩=some (.int .i64 num):=(World.cell?_alloc_lt _ _ _ hlt).trans hn;go_enter Tryz.func212,Tryz.ntmps212
 go_wp2_with fail
 go_ret
 exact⟨rfl,rfl⟩
theorem Kq(v:Value)(l:List bG)(num:Int)(nb:Nat)(w:World)(h:aA fL w v l)(hl:l.length<=256)(hn:w.cell? ⟨nb,0,none⟩=some (.int .i64 num)):
  Calls Tryz.prog 211 #[v,.func (.func 212) #[] #[.pointer (some ⟨nb,0,none⟩)]] w fun e w'=> ∃v',e=.returned v'/\Sl 100 fL 4 w.heap.size w' v' (aX l num)/\ai [] w w':=by
 obtain⟨sa,sc,rfl⟩:=h.form;have hC:=fun f W (ho:ai [] w W)=>OC f num nb W ((ho.cell (block_lt_of_cell hn) (by simp)).trans hn)
 change Hid _ at hC;replace h:=af h;clear hn;go_enter Tryz.func211,Tryz.ntmps211
 go_wp2_with fail
 go_loopg[5,10] l.length (fun g s5 s10 wr=> ∃k:Nat,k<=l.length/\g=l.length-k/\s10=.int .i64 k/\Aside (ai [] w wr/\Sl 100 fL 4 w.heap.size wr s5 (aX (l.take k) num)))
 case atStart=>exact⟨0,by omega,by omega,rfl,ai.refl _ _,by simpa[aX]using Sl.nil _ _ _⟩
 case round=>
  obtain⟨k,hk,rfl,rfl,hO,hS⟩:=hrel;have k0:(0:Int)<=k:=by omega
  by_cases hlt:k<l.length
  ·have k1:(k:Int)<l.length:=by omega
   have hwk:IntKind.i64.wrap ((k:Int)+1)=(k:Int)+1:=IntWalk.i64_in _ (by omega);obtain⟨b,o,rfl,c0,c1,c2,c3⟩:=(h.out.nil' hO).fld hlt;have hT:=uR (n:=num) hlt;have TU:(aX (l.take k) num).length<=256:=Nat.le_trans (pY _ _) (by rw[List.length_take];omega);generalize l[k]=f at*;obtain⟨f1,f2,f3,f4⟩:=f;simp only at c0 c1 c2 c3 hT;have hA:=(ai.refl [] wr).alloc (.cells #[.int .i64 f1,.int .i64 f2,.int .u64 f3,.string f4] 100);have Ra:=hC.out ⟨f1,f2,f3,f4⟩ _ (hO.trans hA);unfold fL at Ra;simp only at Ra;have hA2:=hA.alloc (.cells #[.int .i64 f1,.int .i64 f2,.int .u64 f3,.string f4] 100);have hb2:=((ai.refl [] (wr.alloc (.cells #[.int .i64 f1,.int .i64 f2,.int .u64 f3,.string f4] 100))).alloc (.cells #[.int .i64 f1,.int .i64 f2,.int .u64 f3,.string f4] 100)).heap (heap_alloc_new wr _) (by simp);obtain⟨d0,d1,d2,d3⟩:=VK (f:=⟨f1,f2,f3,f4⟩) hb2;simp only at d0 d1 d2 d3;obtain⟨sa5,sc5,rfl⟩:=hS.sl;replace Ra:=af Ra;generalize hF:aX (l.take k) num=F at*;cases hq:f1==num
   ·rw[hq]at Ra hT
    simp only[Bool.false_eq_true,if_false,List.append_nil]at hT;have hO2:=af (hO.trans hA2);have hS2:=af (hS.nil' hA2);change Hid _ at hT;clear hq hA hA2 hS hO hb2 hC h hF;go_wp2_with(go_at_call 212;(with_reducible refine Ra.out.mono ?_);rintro e w2 ⟨rfl,rfl⟩)
    go_roundg(l.length-(k+1))
    case measure=>omega
    case rel=>exact⟨k+1,by omega,rfl,by simp,hO2.out,by rw[hT.out];exact hS2.out⟩
   ·rw[hq]at Ra hT
    simp only[if_true]at hT;have hO2:=hO.trans hA2;have hS2:=hS.nil' hA2;generalize((wr.alloc (.cells #[.int .i64 f1,.int .i64 f2,.int .u64 f3,.string f4] 100)).alloc (.cells #[.int .i64 f1,.int .i64 f2,.int .u64 f3,.string f4] 100))=W2 at*;have hRb:=af (aA.new (enc:=fL) (T:=100) W2 ⟨f1,f2,f3,f4⟩ 1);have hO3:=af (hO2.alloc (.cells #[.int .i64 f1,.int .i64 f2,.int .u64 f3,.string f4] 100));have rO:=af (hS2.nil' ((ai.refl [] W2).alloc (.cells #[.int .i64 f1,.int .i64 f2,.int .u64 f3,.string f4] 100)));have hl1:=af (show(F.length+1)*40<=140737488355328 by omega);have hl2:=af (show F.length+1<=maxLen by unfold maxLen;omega);change Hid _ at hT;clear hq hA hA2 hS hO hb2 hC h hF hS2 hO2 TU;go_wp2_with(first
     |(go_at_call 212;(with_reducible refine Ra.out.mono ?_);rintro e w2 ⟨rfl,rfl⟩)
     |(at_builtin;refine aO rfl (.tmp 17) (.tmp 19) rfl zL hO3.out rfl rO.out rfl hRb.out hl1.out hl2.out ?_;intro va wa mU zk _ hg2 hg3;obtain⟨aa,ca,rfl⟩:=mU.sl;replace zk:=af zk;replace mU:=af mU))
    go_roundg(l.length-(k+1))
    case measure=>omega
    case rel=>exact⟨k+1,by omega,rfl,by simp,zk.out,by have hh:=mU.out;rw[List.length_append]at hh;rw[hT.out];exact hh⟩
  ·have k1: ¬(k:Int)<l.length:=by omega
   rw[List.take_of_length_le (by omega)]at hS;change Hid _ at hO hS;clear hC h;go_wp2_with fail
   go_ret
   exact⟨_,rfl,hS.out,hO.out⟩
theorem qf(v:Value)(l:List bG)(num:Int)(w:World)(h:aA fL w v l)(hl:l.length<=256):
  Calls Tryz.prog 166 #[v,.int .i64 num] w fun e w'=> ∃v',e=.returned v'/\Sl 100 fL 4 w.heap.size w' v' (aX l num)/\ai [] w w':=by
 obtain⟨sa,sc,rfl⟩:=h.form;have hA:=(ai.refl [] w).alloc (.cells #[.int .i64 num] 3);have hn:(w.alloc (.cells #[.int .i64 num] 3)).cell? ⟨w.heap.size,0,none⟩=some (.int .i64 num):=cell_of_row _ _ 0 _ _ _ (heap_alloc_new w _);have cP:=af (Kq _ l num w.heap.size _ (h.nil' hA) hl hn);have hb:=af (show w.heap.size<=(w.alloc (.cells #[.int .i64 num] 3)).heap.size from hA.size);replace hA:=af hA;clear h hn;go_enter Tryz.func166,Tryz.ntmps166
 go_wp2_with fail
 refine cP.out.mono ?_;rintro e w2 ⟨v2,rfl,hS,hO⟩;obtain⟨a2,c2,rfl⟩:=hS.sl;change Hid _ at hO;replace hS:=af hS;go_wp2_with fail
 go_ret
 exact⟨_,rfl,hS.out.mono hb.out,hA.out.trans hO.out⟩
theorem q4{w:World}{b:Nat}{x0 x1 x2 x3:Value}{T:TypeId}(h:w.heap[b]?=some (.cells #[x0,x1,x2,x3] T (0,0))):
  (w.cell? ⟨b,0,none⟩=some x0/\w.cell? ⟨b,1,none⟩=some x1/\w.cell? ⟨b,2,none⟩=some x2/\w.cell? ⟨b,3,none⟩=some x3)/\w.frozen? ⟨b,0,none⟩=false/\w.frozen? ⟨b,1,none⟩=false/\w.frozen? ⟨b,2,none⟩=false/\w.frozen? ⟨b,3,none⟩=false/\b<w.heap.size:=
 ⟨⟨cell_of_row _ _ 0 _ _ _ h,cell_of_row _ _ 1 _ _ _ h,cell_of_row _ _ 2 _ _ _ h,cell_of_row _ _ 3 _ _ _ h⟩,frozen_of_row w b 0 _ _ h,frozen_of_row w b 1 _ _ h,frozen_of_row w b 2 _ _ h,frozen_of_row w b 3 _ _ h,aj h⟩
theorem U0{w w0:World}{b:Nat}{x0 x1 x2 x3:Value}{T:TypeId}(h:w.heap[b]?=some (.cells #[x0,x1,x2,x3] T (0,0)))(ho:ai [] w0 w)(hb:w0.heap.size<=b)(u0 u1 u2 u3:Value):
  ((((w.setCell ⟨b,0,none⟩ u0).setCell ⟨b,1,none⟩ u1).setCell ⟨b,2,none⟩ u2).setCell ⟨b,3,none⟩ u3).heap[b]?=some (.cells #[u0,u1,u2,u3] T (0,0))/\ai [] w0 ((((w.setCell ⟨b,0,none⟩ u0).setCell ⟨b,1,none⟩ u1).setCell ⟨b,2,none⟩ u2).setCell ⟨b,3,none⟩ u3):=by
 have h1:=heap_setCell_same w b 0 _ T u0 h;have h2:=heap_setCell_same _ b 1 _ T u1 h1;have h3:=heap_setCell_same _ b 2 _ T u2 h2;have h4:=heap_setCell_same _ b 3 _ T u3 h3;exact⟨by simpa using h4,(((ho.setCell (.inr hb) _).setCell (.inr hb) _).setCell (.inr hb) _).setCell (.inr hb) _⟩
theorem Kr(v:Value)(l:List bG)(num:Int)(w:World)(h:aA fL w v l)(hl:l.length<=256):
  Calls Tryz.prog 415 #[v,.int .i64 num] w fun e w'=>(∃(x:bG) (b:Bool),e=.returned (.tuple #[.agg (fL x).toArray,.bool b])/\x.val=((aX l num).getLast?.map (·.val)).getD 0)/\ai [] w w':=by
 obtain⟨sa,sc,rfl⟩:=h.form;have hA:=(ai.refl [] w).alloc (.cells #[.int .i64 0,.int .i64 0,.int .u64 0,.string ⟨#[]⟩] 100);have hb0:=heap_alloc_new w (.cells #[.int .i64 0,.int .i64 0,.int .u64 0,.string ⟨#[]⟩] 100);have cA:=af (qf _ l num _ (h.nil' hA) hl);have hFl:(aX l num).length<=256:=Nat.le_trans (pY _ _) hl;clear h;generalize aX l num=F at*;obtain⟨q,hq⟩: ∃q,(F.getLast?.map (·.val)).getD 0=q:=⟨_,rfl⟩;rw[hq];go_enter Tryz.func415,Tryz.ntmps415
 go_wp2_with fail
 refine cA.out.mono ?_;rintro e w2 ⟨v2,rfl,hS,hO⟩;have hb2:=hO.heap hb0 (by simp);obtain⟨⟨d0,d1,d2,d3⟩,z0,z1,z2,z3,zl⟩:=q4 hb2;have hO2:=hA.trans hO;by_cases h0:F.length=0
 ·have hF:=List.eq_nil_of_length_eq_zero h0
  subst hF;obtain⟨a2,c2,rfl⟩:=hS.sl;obtain⟨hset,iW⟩:=U0 hb2 hO2 (Nat.le_refl _) (.int .i64 0) (.int .i64 0) (.int .u64 0) (.string ⟨#[]⟩);change Hid _ at hset iW;clear hS hO hA cA hb2 hb0 hO2 h0;go_wp2_with fail
  obtain⟨⟨g0,g1,g2,g3⟩,_⟩:=q4 hset.out;exact bodyPost_ret (v:=.tuple #[.agg #[.int .i64 0,.int .i64 0,.int .u64 0,.string ⟨#[]⟩],.bool false]) (by simp[results,Tryz.results415,go_sem,g0,g1,g2,g3];try rfl) rfl ⟨⟨⟨0,0,0,⟨#[]⟩⟩,false,rfl,hq⟩,iW.out⟩
 ·have hw:IntKind.wrap .i64 ((F.length:Int)-1)=((F.length-1:Nat):Int):=by rw[IntKind.wrap_i64];omega
  have hn1:F.length-1<F.length:=by omega
  have hn0:(0:Int)<=((F.length-1:Nat):Int):=by omega
  have hnl:((F.length-1:Nat):Int)<(F.length:Int):=by omega
  have hne:((F.length:Int)==0)=false:=by simpa using h0
  obtain⟨a2,c2,rfl⟩:=hS.sl;obtain⟨b,o,rfl,c0,c1,c2,c3⟩:=(hS.reads dX).fld hn1;have hv:((F.getLast?.map (·.val)).getD 0)=F[F.length-1].val:=by rw[List.getLast?_eq_getElem?,List.getElem?_eq_getElem hn1];rfl
  rw[hv]at hq;clear hv;generalize F[F.length-1]=f at*;obtain⟨f1,f2,f3,f4⟩:=f;simp only at c0 c1 c2 c3 hq;subst hq;obtain⟨hset,iW⟩:=U0 hb2 hO2 (Nat.le_refl _) (.int .i64 f1) (.int .i64 f2) (.int .u64 f3) (.string f4);change Hid _ at hset iW;clear hS hO hA cA hb2 hb0 hO2 h0 hn1;generalize F.length-1=m at*;generalize F.length=n at*;go_wp2_with fail
  obtain⟨⟨g0,g1,g2,g3⟩,_⟩:=q4 hset.out;exact bodyPost_ret (v:=.tuple #[.agg #[.int .i64 f1,.int .i64 f2,.int .u64 f3,.string f4],.bool true]) (by simp[results,Tryz.results415,go_sem,g0,g1,g2,g3];try rfl) rfl ⟨⟨⟨f1,f2,f3,f4⟩,true,rfl,rfl⟩,iW.out⟩
def aN(w:World):Prop:= ∀k:Nat,k<8->w.cell? ⟨5,k,none⟩=some (.int .i64 (IU k))
theorem aN.own{w w':World}(h:aN w)(ho:ai [] w w'):aN w':=fun k hk=>(ho.cell (block_lt_of_cell (h k hk)) (by simp)).trans (h k hk)
theorem AV(k:Int)(w:World):Calls Tryz.prog 405 #[.int .i64 k] w fun e w'=>e=.returned (.bool (k==6||k==7))/\w=w':=by
 by_cases h6:k=6
 ·subst h6
  go_enter Tryz.func405,Tryz.ntmps405
  go_wp2_with fail
  go_ret
  exact⟨rfl,rfl⟩
 ·have q6:(k==6)=false:=by simpa using h6
  rw[q6];go_enter Tryz.func405,Tryz.ntmps405
  go_wp2_with fail
  go_ret
  exact⟨by simp,rfl⟩
def xG(k:Int):Int:=if k=0\/k=6\/k=7 then 0 else if k=1\/k=3 then 4294967295 else if k=5 then 1 else 18446744073709551615
theorem FY(k:Int)(w:World):Calls Tryz.prog 406 #[.int .i64 k] w fun e w'=>e=.returned (.int .u64 (xG k))/\w=w':=by
 unfold xG;by_cases h0:k=0
 ·subst h0
  go_enter Tryz.func406,Tryz.ntmps406
  go_wp2_with fail
  go_ret
  exact⟨rfl,rfl⟩
 by_cases h6:k=6
 ·subst h6
  go_enter Tryz.func406,Tryz.ntmps406
  go_wp2_with fail
  go_ret
  exact⟨rfl,rfl⟩
 by_cases h7:k=7
 ·subst h7
  go_enter Tryz.func406,Tryz.ntmps406
  go_wp2_with fail
  go_ret
  exact⟨rfl,rfl⟩
 by_cases h1:k=1
 ·subst h1
  go_enter Tryz.func406,Tryz.ntmps406
  go_wp2_with fail
  go_ret
  exact⟨rfl,rfl⟩
 by_cases h3:k=3
 ·subst h3
  go_enter Tryz.func406,Tryz.ntmps406
  go_wp2_with fail
  go_ret
  exact⟨rfl,rfl⟩
 by_cases h5:k=5
 ·subst h5
  go_enter Tryz.func406,Tryz.ntmps406
  go_wp2_with fail
  go_ret
  exact⟨rfl,rfl⟩
 have q0:(k==0)=false:=by simpa using h0
 have q1:(k==1)=false:=by simpa using h1
 have q3:(k==3)=false:=by simpa using h3
 have q5:(k==5)=false:=by simpa using h5
 have q6:(k==6)=false:=by simpa using h6
 have q7:(k==7)=false:=by simpa using h7
 rw[if_neg (by omega),if_neg (by omega),if_neg h5];go_enter Tryz.func406,Tryz.ntmps406
 go_wp2_with fail
 go_ret
 exact⟨rfl,rfl⟩
theorem Db(num base:Int)(raw:Bool)(w:World)(hn:0<=num/\num<=536870912)(hb:1<=base/\base<=1000):
  Calls Tryz.prog 404 #[.int .i64 num,.int .i64 base,.bool raw] w fun e w'=>e=.returned (.int .i64 (iq num base raw))/\w=w':=by
 unfold iq;obtain⟨k,hk⟩: ∃k,num-base+1=k:=⟨_,rfl⟩;have h1:IntKind.wrap .i64 (num-base)=k-1:=by rw[IntKind.wrap_i64];omega
 have h2:IntKind.wrap .i64 k=k:=by rw[IntKind.wrap_i64];omega
 rw[hk];change Hid _ at hk;clear hn hb;by_cases hk1:k<1
 ·rw[if_pos (.inl hk1)]
  go_enter Tryz.func404,Tryz.ntmps404
  go_wp2_with fail
  go_ret
  exact⟨rfl,rfl⟩
 by_cases Y0:7<k
 ·rw[if_pos (.inr (.inl Y0))]
  go_enter Tryz.func404,Tryz.ntmps404
  go_wp2_with fail
  go_ret
  exact⟨rfl,rfl⟩
 by_cases hk0:k=7
 ·subst hk0
  cases raw
  ·rw[if_pos (.inr (.inr ⟨rfl,rfl⟩))]
   go_enter Tryz.func404,Tryz.ntmps404
   go_wp2_with fail
   go_ret
   exact⟨rfl,rfl⟩
  ·rw[if_neg (by simp)]
   go_enter Tryz.func404,Tryz.ntmps404
   go_wp2_with fail
   go_ret
   exact⟨rfl,rfl⟩
 have q7:(k==7)=false:=by simpa using hk0
 have hng: ¬(k<1\/7<k\/(k=7/\raw=false)):=by
  rintro(h|h|⟨h,_⟩)
  ·exact hk1 h
  ·exact Y0 h
  ·exact hk0 h
 rw[if_neg hng];go_enter Tryz.func404,Tryz.ntmps404
 go_wp2_with fail
 go_ret
 exact⟨rfl,rfl⟩
def PV.val(p:PV):Value:=.agg #[.int .i64 p.k,.int .u64 p.n,.string p.s]
def tK(t:Option PV)(W0:World)(e:Ending)(w':World):Prop:=
 match t with
 |some v=>e=.returned (.tuple #[v.val,.int .i64 0])/\ai [] W0 w'
 |none=>(∃(x:PV) (ec:Int),ec≠0/\e=.returned (.tuple #[x.val,.int .i64 ec]))/\ai [] W0 w'
theorem q3{w:World}{b:Nat}{x0 x1 x2:Value}{T:TypeId}(h:w.heap[b]?=some (.cells #[x0,x1,x2] T (0,0))):
  (w.cell? ⟨b,0,none⟩=some x0/\w.cell? ⟨b,1,none⟩=some x1/\w.cell? ⟨b,2,none⟩=some x2)/\w.frozen? ⟨b,0,none⟩=false/\w.frozen? ⟨b,1,none⟩=false/\w.frozen? ⟨b,2,none⟩=false/\b<w.heap.size:=
 ⟨⟨cell_of_row _ _ 0 _ _ _ h,cell_of_row _ _ 1 _ _ _ h,cell_of_row _ _ 2 _ _ _ h⟩,frozen_of_row w b 0 _ _ h,frozen_of_row w b 1 _ _ h,frozen_of_row w b 2 _ _ h,aj h⟩
theorem jg{w:World}{b:Nat}{x0 x1 x2:Value}{T:TypeId}(h:w.heap[b]?=some (.cells #[x0,x1,x2] T (0,0)))(u0 u1 u2:Value):
  (((w.setCell ⟨b,0,none⟩ u0).setCell ⟨b,1,none⟩ u1).setCell ⟨b,2,none⟩ u2).heap[b]?=some (.cells #[u0,u1,u2] T (0,0))/\ai [b] w (((w.setCell ⟨b,0,none⟩ u0).setCell ⟨b,1,none⟩ u1).setCell ⟨b,2,none⟩ u2):=by
 have h1:=heap_setCell_same w b 0 _ T u0 h;have h2:=heap_setCell_same _ b 1 _ T u1 h1;have h3:=heap_setCell_same _ b 2 _ T u2 h2;exact⟨by simpa using h3,(((ai.refl [b] w).setCell (.inl (by simp)) _).setCell (.inl (by simp)) _).setCell (.inl (by simp)) _⟩
structure OD (w wr:World) (rb vb:Nat) (base:Int) (raw:Bool) (l:List bG) (R:Option PV) (k:Nat) (v:PV):Prop where
 own:ai [] w wr
 res:wr.heap[rb]?=some (.cells #[.int .i64 0,.int .u64 0,.string ⟨#[]⟩] 105 (0,0))
 val:wr.heap[vb]?=some (.cells #[.int .i64 v.k,.int .u64 v.n,.string v.s] 105 (0,0))
 now:(l.drop k).foldlM (iO base raw) v=R
theorem OD.step{w wr:World}{rb vb:Nat}{base:Int}{raw:Bool}{l:List bG}{R:Option PV}{k:Nat}{v:PV}(h:OD w wr rb vb base raw l R k v)(hk:k<l.length):
  (match iO base raw v l[k]with|none=>R=none|some v'=>(l.drop (k+1)).foldlM (iO base raw) v'=R):=by
 have:=h.now;rw[List.drop_eq_getElem_cons hk,List.foldlM_cons]at this;cases hv:iO base raw v l[k]with
 |none=>rw[hv]at this;exact this.symm
 |some v'=>rw[hv]at this;exact this
theorem AX(num base:Int)(raw:Bool):iq num base raw=0\/(1<=iq num base raw/\iq num base raw<=7):=by
 unfold iq;split
 ·exact .inl rfl
 ·rename_i h
  exact .inr ⟨by omega,by omega⟩
theorem Dc{k n:Int}(hk:1<=k/\k<=7)(hn:n<=18446744073709551615):N8 k n=(!(k==6||k==7)&&decide (xG k<n)):=by
 obtain⟨h1,h7⟩:=hk;unfold N8 xG;rw[Bool.eq_iff_iff];simp only[decide_eq_true_eq,Bool.and_eq_true,Bool.not_eq_true',Bool.or_eq_false_iff,beq_eq_false_iff_ne];by_cases k6:k=6
 ·subst k6;simp
 by_cases k7:k=7
 ·subst k7;simp
 by_cases k1:k=1
 ·subst k1;simp;omega
 by_cases k3:k=3
 ·subst k3;simp;omega
 by_cases k5:k=5
 ·subst k5;simp
 ·rw[if_neg (by omega),if_neg (by omega),if_neg k5]
  constructor
  ·rintro(⟨h|h,_⟩|⟨h,_⟩)
   ·exact absurd h k1
   ·exact absurd h k3
   ·exact absurd h k5
  ·rintro⟨_,h⟩;omega
theorem wB(sv:Value)(l:List bG)(base:Int)(raw:Bool)(w:World)(h:aA fL w sv l)(hl:l.length<=256)(hf: ∀f∈l,f.Ok)(hb:1<=base/\base<=1000)(hK:aN w):
  Calls Tryz.prog 395 #[sv,.int .i64 base,.bool raw] w (tK (MU base raw l) w):=by
 obtain⟨sa,sc,rfl⟩:=h.form;obtain⟨R,hR⟩: ∃R,MU base raw l=R:=⟨_,rfl⟩;rw[hR];unfold MU at hR;obtain⟨hb1,hb2⟩:=hb;have hJ0:OD w ((w.alloc (.cells #[.int .i64 0,.int .u64 0,.string ⟨#[]⟩] 105)).alloc (.cells #[.int .i64 0,.int .u64 0,.string ⟨#[]⟩] 105)) w.heap.size (w.heap.size+1) base raw l R 0 PV.zero:=
  ⟨((ai.refl [] w).alloc _).alloc _,((ai.refl [] _).alloc _).heap (heap_alloc_new w _) (by simp),heap_alloc2_new w _ _,by rw[List.drop_zero];exact hR⟩
 change Hid _ at hJ0;clear hR;go_enter Tryz.func395,Tryz.ntmps395
 go_wp2_with go_in
 generalize((w.alloc (.cells #[.int .i64 0,.int .u64 0,.string ⟨#[]⟩] 105)).alloc (.cells #[.int .i64 0,.int .u64 0,.string ⟨#[]⟩] 105))=w0 at*;obtain⟨rb,hrb⟩: ∃rb,rb=w.heap.size:=⟨_,rfl⟩;rw[<-hrb]at hJ0⊢;obtain⟨vb,hvb⟩: ∃vb,vb=rb+1:=⟨_,rfl⟩;rw[<-hvb]at hJ0⊢;have hrv:rb≠vb:=by omega
 have hwr:w.heap.size<=rb:=by omega
 have hwv:w.heap.size<=vb:=by omega
 clear hrb hvb;go_loopg[18] l.length (fun g s18 wr=> ∃(k:Nat) (v:PV),k<=l.length/\g=l.length-k/\s18=.int .i64 k/\Aside (OD w wr rb vb base raw l R k v))
 case atStart=>exact⟨0,_,by omega,by omega,rfl,hJ0.out⟩
 case round=>
  obtain⟨k,v,hk,rfl,rfl,hJ⟩:=hrel;have k0:(0:Int)<=k:=by omega
  obtain⟨⟨r0,r1,r2⟩,y0,y1,y2,hrl⟩:=q3 hJ.res;by_cases hlt:k<l.length
  ·have k1:(k:Int)<l.length:=by omega
   have hwk:IntKind.i64.wrap ((k:Int)+1)=(k:Int)+1:=IntWalk.i64_in _ (by omega);obtain⟨b,o,rfl,c0,c1,c2,c3⟩:=(h.nil' hJ.own).fld hlt;have hF:=hf l[k] (List.getElem_mem hlt);have hst:=hJ.step hlt;generalize l[k]=f at*;obtain⟨f1,f2,f3,f4⟩:=f;simp only at c0 c1 c2 c3;have hA:=(ai.refl [] wr).alloc (.cells #[.int .i64 f1,.int .i64 f2,.int .u64 f3,.string f4] 100);have hbx:=heap_alloc_new wr (.cells #[.int .i64 f1,.int .i64 f2,.int .u64 f3,.string f4] 100);have hJ2:OD w (wr.alloc (.cells #[.int .i64 f1,.int .i64 f2,.int .u64 f3,.string f4] 100)) rb vb base raw l R k v:=⟨hJ.own.trans hA,hA.heap hJ.res (by simp),hA.heap hJ.val (by simp),hJ.now⟩;have hK2:=hK.own hJ2.own;have cK:=af (Db f1 base raw (wr.alloc (.cells #[.int .i64 f1,.int .i64 f2,.int .u64 f3,.string f4] 100)) ⟨by have:=hF.n0;simp only at this;omega,by have:=hF.n1;simp only at this;omega⟩ ⟨hb1,hb2⟩);unfold iO at hst;simp only at hst;obtain⟨⟨d0,d1,d2,d3⟩,_⟩:=q4 hbx;have hKr:=AX f1 base raw;obtain⟨K,hKe⟩: ∃K,iq f1 base raw=K:=⟨_,rfl⟩;rw[hKe]at hst cK hKr;clear hKe hA;by_cases Uh:K=0
   ·subst Uh
    rw[if_pos rfl]at hst;simp only at hst;have hJ3:=af (show OD w _ rb vb base raw l R (k+1) v from⟨hJ2.own,hJ2.res,hJ2.val,hst⟩);clear hst hJ hJ2 h hJ0 hf hK2 hF hKr;go_wp2_with(go_at_call 404;(with_reducible refine cK.out.mono ?_);rintro e w2 ⟨rfl,rfl⟩)
    go_roundg(l.length-(k+1))
    case measure=>omega
    case rel=>exact⟨k+1,v,by omega,rfl,by simp,hJ3.out⟩
   ·rw[if_neg Uh]at hst
    have Y1:1<=K/\K<=7:=by rcases hKr with h0|h0;exact absurd h0 Uh;exact h0
    have Ui:=Dc Y1 hF.v1;simp only at Ui;rw[Ui]at hst;obtain⟨kk,rfl⟩: ∃kk:Nat,K=(kk:Int):=⟨K.toNat,by omega⟩;have t0:=hK2 kk (by omega);have p0:(0:Int)<=kk:=by omega
    have p8:(kk:Int)<8:=by omega
    have q0:((kk:Int)==0)=false:=by simpa using Uh
    have cT:=af (fun W=>AV (kk:Int) W);have cL:=af (fun W=>FY (kk:Int) W);have hc1:=hF.v1;simp only at hc1;change Hid _ at hJ2;clear Ui hKr Y1 hK2 hF hf hJ hJ0 h Uh;generalize IU (kk:Int)=kd at*;go_wp2_with(go_at_call 404;(with_reducible refine cK.out.mono ?_);rintro e w2 ⟨rfl,rfl⟩)
    have hJ3:=hJ2.out;generalize(wr.alloc (.cells #[.int .i64 f1,.int .i64 f2,.int .u64 f3,.string f4] 100))=W2 at*;generalize wr.heap.size=fb at*;obtain⟨⟨s0,s1,s2⟩,m0,m1,m2,_⟩:=q3 hJ3.res;obtain⟨⟨v0,v1,v2⟩,n0,n1,n2,_⟩:=q3 hJ3.val;clear hJ2 hbx cK;replace hJ3:=af hJ3;by_cases hkd:f2=kd
    ·subst hkd
     rw[if_neg (by simp)]at hst;have qd:(f2 !=f2)=false:=by simp
     obtain⟨tx,htx⟩: ∃tx,((kk:Int)==6||(kk:Int)==7)=tx:=⟨_,rfl⟩;rw[htx]at hst cT;change Hid _ at htx;obtain⟨lm,hlm⟩: ∃lm,xG (kk:Int)=lm:=⟨_,rfl⟩;rw[hlm]at hst cL;change Hid _ at hlm;by_cases hov:tx=false/\lm<f3
     ·obtain⟨rfl,hov⟩:=hov
      have hdv:decide (lm<f3)=true:=by simpa using hov
      rw[hdv]at hst;simp only[Bool.not_false,Bool.and_self,if_true]at hst;subst hst;clear hov;go_quiet(fail)
      go_wp2_with fail
      have wH:OD w (W2.drewN nq) rb vb base raw l none k v:=⟨hJ3.out.own.drewN nq,hJ3.out.res,hJ3.out.val,hJ3.out.now⟩;have D0:(W2.drewN nq).cell? ⟨fb,0,none⟩=_:=d0;have D2:(W2.drewN nq).cell? ⟨fb,2,none⟩=_:=d2;have D3:(W2.drewN nq).cell? ⟨fb,3,none⟩=_:=d3;clear d0 d1 d2 d3 t0 s0 s1 s2 m0 m1 m2 v0 v1 v2 n0 n1 n2 hJ3 qd;generalize W2.drewN nq=W3 at*;obtain⟨⟨s0,s1,s2⟩,m0,m1,m2,_⟩:=q3 wH.res;obtain⟨⟨v0,v1,v2⟩,n0,n1,n2,_⟩:=q3 wH.val;have hJ3:=af wH;clear wH;go_quiet((first|(go_at_call 405;exact Calls.quiet_of_same ((cT.out _).mono (fun _ _ h=>⟨h.1,h.2.symm⟩)))|(go_at_call 406;exact Calls.quiet_of_same ((cL.out _).mono (fun _ _ h=>⟨h.1,h.2.symm⟩)))))
      go_wp2_with fail
      have hr3:(W3.drewN nq).heap[rb]?=_:=hJ3.out.res;obtain⟨hset,iW⟩:=jg hr3 (.int .i64 0) (.int .u64 0) (.string ⟨#[]⟩);obtain⟨⟨g0,g1,g2⟩,_⟩:=q3 hset;have hO2:=(hJ3.out.own.drewN nq).trans' iW (fun x hx=>.inr (by simp at hx;omega));exact bodyPost_ret (v:=.tuple #[.agg #[.int .i64 0,.int .u64 0,.string ⟨#[]⟩],.int .i64 5]) (by simp[results,Tryz.results395,go_sem,g0,g1,g2];try rfl) rfl ⟨⟨PV.zero,5,by decide,rfl⟩,hO2⟩
     ·have hdv:(!tx&&decide (lm<f3))=false:=by
       cases tx
       ·have: ¬lm<f3:=fun h=>hov ⟨rfl,h⟩
        simpa using this
       ·rfl
      rw[hdv]at hst;simp only[Bool.false_eq_true,if_false]at hst;change Hid _ at hst;cases tx
      ·have adY:decide (lm<f3)=false:=by simpa using hdv
       clear hdv hov;go_quiet(fail)
       go_wp2_with fail
       have wH:OD w (W2.drewN nq) rb vb base raw l R k v:=⟨hJ3.out.own.drewN nq,hJ3.out.res,hJ3.out.val,hJ3.out.now⟩;have D0:(W2.drewN nq).cell? ⟨fb,0,none⟩=_:=d0;have D2:(W2.drewN nq).cell? ⟨fb,2,none⟩=_:=d2;have D3:(W2.drewN nq).cell? ⟨fb,3,none⟩=_:=d3;clear d0 d1 d2 d3 t0 s0 s1 s2 m0 m1 m2 v0 v1 v2 n0 n1 n2 hJ3 qd;generalize W2.drewN nq=W3 at*;obtain⟨⟨s0,s1,s2⟩,m0,m1,m2,_⟩:=q3 wH.res;obtain⟨⟨v0,v1,v2⟩,n0,n1,n2,_⟩:=q3 wH.val;have hJ3:=af wH;clear wH;go_quiet((first|(go_at_call 405;exact Calls.quiet_of_same ((cT.out _).mono (fun _ _ h=>⟨h.1,h.2.symm⟩)))|(go_at_call 406;exact Calls.quiet_of_same ((cL.out _).mono (fun _ _ h=>⟨h.1,h.2.symm⟩)))))
       go_wp2_with fail
       have hr3:(W3.drewN nq).heap[vb]?=_:=hJ3.out.val;obtain⟨hset,iW⟩:=jg hr3 (.int .i64 (kk:Int)) (.int .u64 f3) (.string f4);have hO2:=(hJ3.out.own.drewN nq).trans' iW (fun x hx=>.inr (by simp at hx;omega));have hr2:=iW.heap (show(W3.drewN nq).heap[rb]?=_ from hJ3.out.res) (by simp;omega);have lV:=af (show OD w _ rb vb base raw l R (k+1) ⟨(kk:Int),f3,f4⟩from⟨hO2,hr2,hset,hst.out⟩);go_roundg(l.length-(k+1))
       case measure=>omega
       case rel=>exact⟨k+1,_,by omega,rfl,by simp,lV.out⟩
      ·clear hdv hov
       go_quiet(fail)
       go_wp2_with fail
       have wH:OD w (W2.drewN nq) rb vb base raw l R k v:=⟨hJ3.out.own.drewN nq,hJ3.out.res,hJ3.out.val,hJ3.out.now⟩;have D0:(W2.drewN nq).cell? ⟨fb,0,none⟩=_:=d0;have D2:(W2.drewN nq).cell? ⟨fb,2,none⟩=_:=d2;have D3:(W2.drewN nq).cell? ⟨fb,3,none⟩=_:=d3;clear d0 d1 d2 d3 t0 s0 s1 s2 m0 m1 m2 v0 v1 v2 n0 n1 n2 hJ3 qd;generalize W2.drewN nq=W3 at*;obtain⟨⟨s0,s1,s2⟩,m0,m1,m2,_⟩:=q3 wH.res;obtain⟨⟨v0,v1,v2⟩,n0,n1,n2,_⟩:=q3 wH.val;have hJ3:=af wH;clear wH;go_quiet((first|(go_at_call 405;exact Calls.quiet_of_same ((cT.out _).mono (fun _ _ h=>⟨h.1,h.2.symm⟩)))|(go_at_call 406;exact Calls.quiet_of_same ((cL.out _).mono (fun _ _ h=>⟨h.1,h.2.symm⟩)))))
       go_wp2_with fail
       have hr3:(W3.drewN nq).heap[vb]?=_:=hJ3.out.val;obtain⟨hset,iW⟩:=jg hr3 (.int .i64 (kk:Int)) (.int .u64 f3) (.string f4);have hO2:=(hJ3.out.own.drewN nq).trans' iW (fun x hx=>.inr (by simp at hx;omega));have hr2:=iW.heap (show(W3.drewN nq).heap[rb]?=_ from hJ3.out.res) (by simp;omega);have lV:=af (show OD w _ rb vb base raw l R (k+1) ⟨(kk:Int),f3,f4⟩from⟨hO2,hr2,hset,hst.out⟩);go_roundg(l.length-(k+1))
       case measure=>omega
       case rel=>exact⟨k+1,_,by omega,rfl,by simp,lV.out⟩
    ·rw[if_pos hkd]at hst
     simp only at hst;subst hst;have qd:(f2 !=kd)=true:=by simpa using hkd
     clear cT cL v0 v1 v2 n0 n1 n2;go_quiet(fail)
     go_wp2_with fail
     have hr3:(W2.drewN nq).heap[rb]?=_:=hJ3.out.res;obtain⟨hset,iW⟩:=jg hr3 (.int .i64 0) (.int .u64 0) (.string ⟨#[]⟩);obtain⟨⟨g0,g1,g2⟩,_⟩:=q3 hset;have hO2:=(hJ3.out.own.drewN nq).trans' iW (fun x hx=>.inr (by simp at hx;omega));exact bodyPost_ret (v:=.tuple #[.agg #[.int .i64 0,.int .u64 0,.string ⟨#[]⟩],.int .i64 4]) (by simp[results,Tryz.results395,go_sem,g0,g1,g2];try rfl) rfl ⟨⟨PV.zero,4,by decide,rfl⟩,hO2⟩
  ·have k1: ¬(k:Int)<l.length:=by omega
   have ru:=hJ.now;rw[List.drop_of_length_le (by omega)]at ru;have hR:R=some v:=ru.symm;subst hR;obtain⟨⟨v0,v1,v2⟩,_⟩:=q3 hJ.val;obtain⟨hset,iW⟩:=jg hJ.res (.int .i64 v.k) (.int .u64 v.n) (.string v.s);have hO2:=af (hJ.own.trans' iW (fun x hx=>.inr (by simp at hx;omega)));change Hid _ at hset;clear hJ h hJ0 ru iW hf;go_wp2_with fail
   obtain⟨⟨g0,g1,g2⟩,_⟩:=q3 hset.out;exact bodyPost_ret (v:=.tuple #[.agg #[.int .i64 v.k,.int .u64 v.n,.string v.s],.int .i64 0]) (by simp[results,Tryz.results395,go_sem,g0,g1,g2];try rfl) rfl ⟨rfl,hO2.out⟩
end Go.Proofs.YtedcakchekaemaaGreatDoor
