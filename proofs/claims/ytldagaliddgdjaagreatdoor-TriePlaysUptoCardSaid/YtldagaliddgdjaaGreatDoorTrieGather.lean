/- Package trie: gather. -/
import Derived.Test.YtldagaliddgdjaaGreatDoorTrieJoin
import Derived.Test.YtldagaliddgdjaaGreatDoorTrieAll
import Derived.Test.YtldagaliddgdjaaGreatDoorTrieHits
import Derived.Test.YtldagaliddgdjaaGreatDoorFull
import Derived.Deep.RegionHeld3
namespace Go.Proofs.YtldagaliddgdjaaGreatDoor
open Go.RowKit Go.Lib Go.Shelf Go.Sort

def fEnc (x : ByteArray × Int) : List Value := [.string x.1, .int .i64 x.2]
theorem fEnc_len (x : ByteArray × Int) : (fEnc x).length = 2 := rfl
theorem filtInfo : (Tryz.prog.info? 32).map (fun i => (i.zero, i.size, i.bytes)) = some (some (.agg #[.string ⟨#[]⟩, .int .i64 0]), 2, 24) := by kernel_rfl
theorem fElem : Elem Tryz.prog 40 32 fEnc 2 24 where
  ut := Tryz.underlying40
  info := by obtain ⟨i, h1, h2, h3, h4⟩ := info_parts filtInfo; exact ⟨i, _, h1, h2, h3, h4, rfl⟩
  pos := by omega
  len := fEnc_len
  one x u hu := by simp [fEnc] at hu; rcases hu with rfl | rfl <;> rfl

section
variable {α : Type} {enc : α → List Value} {k : Nat} {P : Program}
theorem step_append_new2 {ops : Array Oper} {o : Oper} {a : Act} {K : Act → World → Prop} {Q : Exit → Act → World → Prop} {E : Prop} (hgd : o.guard = none) (s x : Operand) {t T : TypeId} (ho : o.op = .call { callee := .builtin .append, args := #[s, x], argTypes := #[t, t] })
    {bytes : Nat} (E1 : Elem P t T enc k bytes) {W w : World} (hW : Own [] W w) {v sv : Value} {l l2 : List α} (hs : a.eval s = v) (hv : Sl T enc k W.heap.size w v l) (hx : a.eval x = sv) (hsv : Reads enc w sv l2)
    (hlen : (l.length + l2.length) * bytes ≤ 140737488355328) (hmax : l.length + l2.length ≤ maxLen)
    (h : ∀ v' w', Sl T enc k W.heap.size w' v' (l ++ l2) → Own [] W w' → (∀ g, v'.ownBlock = some g → v.ownBlock = some g ∨ w.heap.size ≤ g) → Own v.ownBlock.toList w w' → K (a.put o.dst v') w') :
    if Region.wanted o (yielded ops a.tmps) = true then Oper.wp P o a w K Q else E := by
  have hw : Region.wanted o (yielded ops a.tmps) = true := by simp [Region.wanted, hgd]
  rw [if_pos hw]
  obtain ⟨v', w', hr, h2, h3, h4, h5, h6⟩ := run_append_new2 (P := P) E1 o.type hW hv hsv hlen hmax
  unfold Oper.wp execOp
  simp only [ho, resolve, invoke, builtin, Sem.run_bind, Sem.run_pure, Result.andThen_ok, List.map_toArray, List.map_cons, List.map_nil, hs, hx, hr]
  exact h v' w' h2 h3 h5 h6
theorem step_call {ops : Array Oper} {o : Oper} {a : Act} {w : World} {K : Act → World → Prop} {Q : Exit → Act → World → Prop} {E : Prop} (hgd : o.guard = none) (f : FuncId) (args : Array Operand) (tys : Array TypeId) (ho : o.op = .call { callee := .value (.func f), args := args, argTypes := tys })
    {vs : Array Value} (hvs : args.map a.eval = vs) (hent : ∀ args w, (callFunc f args).run P w = .ok (.enter f args) w) {R : Value → World → Prop} (hC : Calls P f vs w fun e w' => ∃ v, e = .returned v ∧ R v w') (h : ∀ v w', R v w' → K (a.put o.dst v) w') :
    if Region.wanted o (yielded ops a.tmps) = true then Oper.wp P o a w K Q else E := by
  have hw : Region.wanted o (yielded ops a.tmps) = true := by simp [Region.wanted, hgd]
  rw [if_pos hw]
  have hr : (execOp a.eval o).run P w = .ok (.enter f vs) w := by
    unfold execOp
    simp [ho, resolve, invoke, Act.eval, hent, Deferred.ofValue]
    exact hvs
  unfold Oper.wp
  rw [hr, Oper.upon_enter]
  refine hC.mono ?_
  rintro e w' ⟨v, rfl, hR⟩
  exact h v w' hR
/-- append whose answer is known to be there. -/
theorem wpList_append_of2 {ops : Array Oper} {rest : List Oper} {o : Oper} {a : Act} {Q : Exit → Act → World → Prop} {w w' : World} (hgd : o.guard = none) (s x : Operand) {t : TypeId} (ho : o.op = .call { callee := .builtin .append, args := #[s, x], argTypes := #[t, t] })
    {v sv v' : Value} (hs : a.eval s = v) (hx : a.eval x = sv) (hr : (Builtin.append_ #[t, t] o.type #[v, sv]).run P w = .ok v' w') (h : wpList P ops Q rest (a.put o.dst v') w') : wpList P ops Q (o :: rest) a w := by
  refine wpList_plain hgd fun K hK => ?_
  unfold Oper.wp execOp
  simp only [ho, resolve, invoke, builtin, Sem.run_bind, Sem.run_pure, Result.andThen_ok, List.map_toArray, List.map_cons, List.map_nil, hs, hx, hr]
  exact hK _ _ h
end

def outAt (w : World) (o : Nat) (vo : Value) : Prop := w.heap[o]? = some (.cells #[vo] 40 (0, 0))
structure Out (W0 w : World) (o : Nat) (vo : Value) (T : List (ByteArray × Int)) : Prop where
  row : outAt w o vo
  own : Sl 32 fEnc 2 W0.heap.size w vo T
  ne : vo.ownBlock ≠ some o
theorem Out.nil' {W0 w w' : World} {o : Nat} {vo : Value} {T : List (ByteArray × Int)} (h : Out W0 w o vo T) (ho : Own [] w w') : Out W0 w' o vo T := ⟨ho.heap h.row (by simp), h.own.nil' ho, h.ne⟩
theorem Out.own' {S : List Nat} {W0 w w' : World} {o : Nat} {vo : Value} {T : List (ByteArray × Int)} (h : Out W0 w o vo T) (ho : Own S w w') (h1 : o ∉ S) (h2 : ∀ g, vo.ownBlock = some g → g ∉ S) : Out W0 w' o vo T := ⟨ho.heap h.row h1, h.own.own ho h2, h.ne⟩
theorem Out.put {W0 w : World} {o : Nat} {vo vo' : Value} {T : List (ByteArray × Int)} (h : outAt w o vo) (hS : Sl 32 fEnc 2 W0.heap.size w vo' T) (hne : vo'.ownBlock ≠ some o) : Out W0 (w.setCell ⟨o, 0, none⟩ vo') o vo' T :=
  ⟨heap_setCell_same _ _ _ _ _ _ h, hS.own ((Own.refl [o] w).setCell (by simp) _) (fun g hg hx => by simp at hx; subst hx; exact hne hg), hne⟩
def toF (at_ : List ByteArray) (e : List ByteArray × Int) : ByteArray × Int := (joinB (at_ ++ e.1), e.2)
def GatherC (W0 : World) (N : Nodes) (k : Int) (o F c : Nat) : Prop := ∀ (at_ : List ByteArray) (v vo : Value) (T : List (ByteArray × Int)) (w : World),
  at_.length + F ≤ 1000 → Reads lEnc w v at_ → CapOk v → (∀ b, v.ownBlock = some b → b ≠ o ∧ vo.ownBlock ≠ some b) → Own [] W0 w → Out W0 w o vo T → T.length + (allN N F c k).length ≤ 1000 → (∀ e ∈ allN N F c k, (joinB (at_ ++ e.1)).size ≤ 1000) →
  Calls Tryz.prog 31 #[.pointer (some ⟨c, 0, none⟩), v, .int .i64 k, .pointer (some ⟨o, 0, none⟩)] w fun e w' => e = .returned (.tuple #[]) ∧ ∃ vo' T', Out W0 w' o vo' T' ∧ T'.Perm (T ++ (allN N F c k).map (toF at_)) ∧ Own [] W0 w' ∧ Own (o :: vo.ownBlock.toList) w w' ∧
    (∀ g, vo'.ownBlock = some g → vo.ownBlock = some g ∨ w.heap.size ≤ g)

theorem flat_perm {α β : Type} (f : α → List β) {l l' : List α} (h : l.Perm l') : (l.flatMap f).Perm (l'.flatMap f) := by
  induction h with
  | nil => exact List.Perm.refl _
  | cons x _ ih => rw [List.flatMap_cons, List.flatMap_cons]; exact ih.append_left _
  | swap x y l => rw [List.flatMap_cons, List.flatMap_cons, List.flatMap_cons, List.flatMap_cons, ← List.append_assoc, ← List.append_assoc]; exact List.perm_append_comm.append_right _
  | trans _ _ h1 h2 => exact h1.trans h2
def below (N : Nodes) (F : Nat) (k : Int) (p : ByteArray × Nat) : List (List ByteArray × Int) := (allN N F p.2 k).map fun e => (p.1 :: e.1, e.2)
theorem toF_below (at_ : List ByteArray) (N : Nodes) (F : Nat) (k : Int) (p : ByteArray × Nat) : (allN N F p.2 k).map (toF (at_ ++ [p.1])) = (below N F k p).map (toF at_) := by
  unfold below
  rw [List.map_map]
  refine List.map_congr_left fun e _ => ?_
  simp [toF]
set_option maxRecDepth 100000 in
set_option maxHeartbeats 4000000 in
theorem gather_step (W0 : World) (N : Nodes) (k : Int) (o F c : Nat) (hF0 : Forest W0 N) (hK : KeysN N) (hc : Has N c) (hoW : W0.heap.size ≤ o) (IH : ∀ x d, nSub N c x = some d → GatherC W0 N k o F d) : GatherC W0 N k o (F + 1) c := by
  intro at_ v vo T w hl hR hcap hvb hOW hOut hlen hsz
  obtain ⟨n, hf, hn, rfl⟩ := hc.find hF0.apart
  rw [allN_succ N F n.blk k hf] at hlen hsz
  have hFw := hF0.nil' hOW
  obtain ⟨k0, k1⟩ := (hFw.at_ n hn).cells
  have lk := (hFw.at_ n hn).lookWho k
  have hol : o < w.heap.size := lt_of_heap hOut.row
  cases hg : aGet n.ws k with
  | none =>
    rw [hg] at lk
    simp only [Option.getD_none, Option.isSome_none] at lk
    have hown : ownW n k = [] := by unfold ownW; rw [hg]
    obtain ⟨a, cp, rfl⟩ := hR.form
    have hOut1 := hOut
    have hOW1 := hOW
    have hX1 : Own (o :: vo.ownBlock.toList) w w := Own.refl _ _
    have hg1 : ∀ g, vo.ownBlock = some g → vo.ownBlock = some g ∨ w.heap.size ≤ g := fun g h => .inl h
    have hT1 : T = T ++ (ownW n k).map (toF at_) := by rw [hown]; simp
    have hall : allN N (F + 1) n.blk k = ownW n k ++ n.sub.flatMap (below N F k) := allN_succ N F n.blk k hf
    replace hall := Lib.hid hall
    clear hOut hOW
    go_enter Tryz.func31, Tryz.ntmps31
    obtain ⟨wI, rem0, hrng, hI, hp, hOI, hsI⟩ := ((hF0.nil' hOW1).at_ n hn).sub.range subT
    have k01 := ((hF0.nil' hOW1).at_ n hn).cells.1
    obtain ⟨r, hr⟩ : ∃ r, w.heap.size = r := ⟨_, rfl⟩
    rw [hr] at hI hrng
    have hrr : w.heap.size ≤ r := by omega
    have hrW : W0.heap.size ≤ r := by have := hOW1.size; omega
    have hor : o ≠ r := by omega
    have hno1 : vo.ownBlock ≠ some r := fun e => by have := (hOut1.own.block e).2; omega
    have hbel : n.bel < W0.heap.size := hF0.lt _ (foot_feet hn (by simp [Node.foot]))
    have hOutI := hOut1.nil' hOI
    have hOWI := hOW1.trans hOI
    have hXI := hX1.trans hOI.nil
    replace hp := Lib.hid hp
    replace hOutI := Lib.hid hOutI
    replace hOWI := Lib.hid hOWI
    replace hXI := Lib.hid hXI
    replace hg1 := Lib.hid hg1
    replace hT1 := Lib.hid hT1
    replace hno1 := Lib.hid hno1
    replace hR := Lib.hid hR
    replace hvb := Lib.hid hvb
    replace hcap := Lib.hid hcap
    replace hlen := Lib.hid hlen
    replace hsz := Lib.hid hsz
    replace hrr := Lib.hid hrr
    replace hrW := Lib.hid hrW
    replace hor := Lib.hid hor
    replace hbel := Lib.hid hbel
    clear hr hOut1 hOW1 hX1 hOI
    go_wp2_with fail
    go_loopg [10, 11] rem0.length (fun g s10 s11 wr => ∃ (dn rem : List (ByteArray × Nat)) (vo2 : Value) (T2 : List (ByteArray × Int)), g = rem.length ∧ IterP Value.string pEnc wr r n.bel n.sub rem ∧ Aside (n.sub.Perm (dn ++ rem) ∧ Out W0 wr o vo2 T2 ∧ Own [] W0 wr ∧ Own (o :: vo.ownBlock.toList) w wr ∧ T2.Perm (T ++ (dn.flatMap (below N F k)).map (toF at_)) ∧
        (∀ g, vo2.ownBlock = some g → vo.ownBlock = some g ∨ w.heap.size ≤ g) ∧ vo2.ownBlock ≠ some r))
    case atStart => exact ⟨[], rem0, vo, T, rfl, hI, hp.out.symm, hOutI.out, hOWI.out, hXI.out, by simp, hg1.out, hno1.out⟩
    case round =>
      obtain ⟨dn, rem, vo2, T2, rfl, hI, hpd, hOu, hOWr, hXr, hTr, hgr, hnr⟩ := hrel
      rcases hI.next Tryz.prog with ⟨hrem, hnx⟩ | ⟨r1, r2, x, d, w2, hrem, hnx, hI2, hO2, hs2, hen⟩
      · subst hrem
        rw [List.append_nil] at hpd
        have hend : ∃ vo' T', Out W0 wr o vo' T' ∧ T'.Perm (T ++ (ownW n k ++ n.sub.flatMap (below N F k)).map (toF at_)) ∧ Own [] W0 wr ∧ Own (o :: vo.ownBlock.toList) w wr ∧ (∀ g, vo'.ownBlock = some g → vo.ownBlock = some g ∨ w.heap.size ≤ g) := by
          refine ⟨vo2, T2, hOu, ?_, hOWr, hXr, hgr⟩
          rw [List.map_append, ← List.append_assoc, ← hT1.out]
          exact hTr.trans (((flat_perm _ hpd.symm).map _).append_left _)
        replace hend := Lib.hid hend
        clear hI hpd hOu hOWr hXr hTr hgr hnr
        go_wp2_with fail
        go_end0
        refine ⟨rfl, ?_⟩
        rw [hall.out]
        exact hend.out
      · subst hrem
        have hOW2 : Own [] W0 w2 := hOWr.trans' hO2 (fun y hy => .inr (by simp at hy; subst hy; exact hrW.out))
        have hX2 : Own (o :: vo.ownBlock.toList) w w2 := hXr.trans' hO2 (fun y hy => .inr (by simp at hy; subst hy; exact hrr.out))
        have hOu2 : Out W0 w2 o vo2 T2 := hOu.own' hO2 (by simp; exact hor.out) (fun g hg => by simp; intro e; exact hnr (e ▸ hg))
        have hRw := hR.out.own hX2 (fun b hb hx => by
          rcases List.mem_cons.1 hx with h1 | h1
          · exact (hvb.out b hb).1 h1
          · exact (hvb.out b hb).2 (Option.mem_toList.1 h1))
        obtain ⟨v1, hsl, hR1, a1, hv1⟩ := hRw.full lElem hcap.out
        subst hv1
        replace hsl : ∀ W, (Instr.sliceAt 23 (.slice a at_.length cp) none (some (.int .i64 at_.length)) (some (.int .i64 at_.length))).run Tryz.prog W = .ok (.slice a1 at_.length at_.length) W := hsl
        have hA3 : Own [] w2 (w2.alloc (.cells #[.string x] 9)) := (Own.refl _ _).alloc _
        obtain ⟨va, w4, hap, hS4, hO4⟩ := run_append_full (w := w2.alloc (.cells #[.string x] 9)) lElem 23 (hR1.nil' hA3) (Reads.new (enc := lEnc) (T := 9) w2 x 1) (by omega) (by unfold maxLen; omega)
        have hO24 : Own [] w2 w4 := hA3.trans hO4
        have hmem : (x, d) ∈ n.sub := hpd.symm.subset (by simp)
        have hns : nSub N n.blk x = some d := by unfold nSub; rw [hf]; exact aGet_of_mem (hK n hn).1 hmem
        have hcnt : T2.length + (allN N F d k).length ≤ 1000 := by
          have h1 := hTr.length_eq
          have h2 := (flat_perm (below N F k) hpd).length_eq
          have h3 := hlen.out
          have h4 : T.length = T.length + (ownW n k).length := (congrArg List.length hT1.out).trans (by simp)
          have h5 : (below N F k (x, d)).length = (allN N F d k).length := by unfold below; rw [List.length_map]
          simp only [List.length_append, List.length_map, List.flatMap_append, List.flatMap_cons] at h1 h2 h3 h4
          have h6 : (n.sub.flatMap fun p => (allN N F p.2 k).map fun e => (p.1 :: e.1, e.2)).length = (n.sub.flatMap (below N F k)).length := rfl
          omega
        have hszd : ∀ e ∈ allN N F d k, (joinB ((at_ ++ [x]) ++ e.1)).size ≤ 1000 := fun e he => by
          have h1 := hsz.out (x :: e.1, e.2) (List.mem_append.2 (.inr (List.mem_flatMap.2 ⟨(x, d), hmem, List.mem_map.2 ⟨e, he, rfl⟩⟩)))
          rw [List.append_assoc]
          exact h1
        have hb2 := fun g hg => hOu2.own.block (g := g) hg
        have hsz3 : (w2.alloc (.cells #[.string x] 9)).heap.size = w2.heap.size + 1 := by simp
        have hol2 : o < w2.heap.size := lt_of_heap hOu2.row
        have CH := IH x d hns (at_ ++ [x]) va vo2 T2 w4 (by simp; omega) (hS4.reads lEnc_len) hS4.capOk (fun b hb => by
          have h1 := (hS4.block hb).1
          exact ⟨by omega, fun e => by have := (hb2 _ e).2; omega⟩) (hOW2.trans hO24) (hOu2.nil' hO24) hcnt hszd
        rw [toF_below at_ N F k (x, d)] at CH
        have hI4 := hI2.own hO24 (by simp) (by simp)
        have hr4 : r < w4.heap.size := by have := hI4.lt; omega
        have hpd2 : n.sub.Perm ((dn ++ [(x, d)]) ++ (r1 ++ r2)) := hpd.trans (by rw [List.append_assoc]; exact List.Perm.append_left dn List.perm_middle)
        obtain ⟨aa, ca, rfl⟩ := hS4.sl
        rw [List.length_append, List.length_singleton] at hap CH
        have hX4 := hX2.trans hO24.nil
        have hz4 : w.heap.size ≤ w4.heap.size := hX4.size
        have hWb : ∀ g, vo2.ownBlock = some g → W0.heap.size ≤ g := fun g hg => (hb2 g hg).1
        replace CH := Lib.hid CH
        replace hI4 := Lib.hid hI4
        replace hpd2 := Lib.hid hpd2
        replace hTr := Lib.hid hTr
        replace hgr := Lib.hid hgr
        replace hnr := Lib.hid hnr
        replace hX4 := Lib.hid hX4
        replace hr4 := Lib.hid hr4
        replace hz4 := Lib.hid hz4
        replace hWb := Lib.hid hWb
        clear hI hI2 hpd hOu hOu2 hOWr hOW2 hXr hX2 hRw hR1 hA3 hS4 hO4 hO24 hmem hns hcnt hszd hb2 hsz3 hol2 hO2 hs2
        go_wp2_with (first
          | (at_builtin; refine wpList_append_of2 rfl (.tmp 49) (.tmp 51) rfl rfl rfl hap ?_)
          | (go_at_call 31; refine CH.out.mono ?_; rintro e w5 ⟨rfl, vo3, T3, hOu3, hT3, hOW3, hX3, hg3⟩; have hF3 := Lib.hid (And.intro hOu3 (And.intro hT3 (And.intro hOW3 (And.intro hX3 hg3)))); clear hOu3 hT3 hOW3 hX3 hg3))
        go_roundg (r1 ++ r2).length
        case measure => simp
        case rel =>
          obtain ⟨hOu3, hT3, hOW3, hX3, hg3⟩ := hF3.out
          refine ⟨dn ++ [(x, d)], r1 ++ r2, vo3, T3, rfl, hI4.out.own hX3 (fun hx => ?_) (fun hx => ?_), hpd2.out, hOu3, hOW3, hX4.out.trans' hX3 (fun y hy => ?_), ?_, fun g hg => ?_, fun e => ?_⟩
          · rcases List.mem_cons.1 hx with h1 | h1
            · exact hor.out h1.symm
            · exact hnr.out (Option.mem_toList.1 h1)
          · rcases List.mem_cons.1 hx with h1 | h1
            · have := hbel.out; omega
            · have := hWb.out _ (Option.mem_toList.1 h1); have := hbel.out; omega
          · rcases List.mem_cons.1 hy with h1 | h1
            · exact .inl (by rw [h1]; exact List.mem_cons_self ..)
            · rcases hgr.out y (Option.mem_toList.1 h1) with h2 | h2
              · exact .inl (List.mem_cons_of_mem _ (Option.mem_toList.2 h2))
              · exact .inr h2
          · refine hT3.trans ((hTr.out.append_right _).trans ?_)
            rw [List.flatMap_append, List.flatMap_cons, List.flatMap_nil, List.append_nil, List.map_append, List.append_assoc]
          · rcases hg3 g hg with h1 | h1
            · exact hgr.out g h1
            · exact .inr (Nat.le_trans hz4.out h1)
          · rcases hg3 r e with h1 | h1
            · exact hnr.out h1
            · have := hr4.out; omega
  | some q =>
    rw [hg] at lk
    simp only [Option.getD_some, Option.isSome_some] at lk
    have hown : ownW n k = [([], q)] := by unfold ownW; rw [hg]
    have hall : allN N (F + 1) n.blk k = ownW n k ++ n.sub.flatMap (below N F k) := allN_succ N F n.blk k hf
    replace hall := Lib.hid hall
    have hJs := hsz ([], q) (by rw [hown]; simp)
    rw [List.append_nil] at hJs
    have cJ := fun W (ho : Own [] w W) => join_any at_ v W (hR.nil' ho) hcap (by omega) hJs
    have hOc := fun W (ho : Own [] w W) => ((cell_of_row W o 0 _ _ _ (hOut.nil' ho).row) : W.cell? ⟨o, 0, none⟩ = some vo)
    obtain ⟨a, cp, rfl⟩ := hR.form
    obtain ⟨sa, sc, rfl⟩ := hOut.own.sl
    have hTl : T.length ≤ 1000 := by omega
    have hdr : Own [] w w.drew := (Own.refl _ _).drew
    have c0 := hOc _ hdr
    replace cJ := Lib.hid cJ
    replace hOc := Lib.hid hOc
    replace hdr := Lib.hid hdr
    go_enter Tryz.func31, Tryz.ntmps31
    go_wp2_with fail
    generalize hjs : joinB at_ = js at cJ
    replace hOut := Lib.hid hOut
    replace hOW := Lib.hid hOW
    have cJ2 : Calls Tryz.prog 54 #[.slice a at_.length cp] w.drew fun e w' => ∃ v, e = .returned v ∧ (v = .string js ∧ Own [] w w') := (cJ.out _ hdr.out).mono (fun e w' h => ⟨_, h.1, rfl, hdr.out.trans h.2⟩)
    have eJ : ∀ args w, (callFunc 54 args).run Tryz.prog w = .ok (.enter 54 args) w := enters_of Tryz.func54 (by kernel_rfl) rfl
    replace cJ2 := Lib.hid cJ2
    replace eJ := Lib.hid eJ
    go_region_law ((first
      | ((refine step_call rfl 54 _ _ (by rfl) (by simp [Act.eval, Act.put]) eJ.out cJ2.out ?_); intro va wa hva; obtain ⟨rfl, hOa⟩ := hva; have kA := hOc.out wa hOa; have kB := hOc.out _ (hOa.alloc (.cells #[.string js, .int .i64 q] 32)); have hOa2 := Lib.hid (hOa.alloc (.cells #[.string js, .int .i64 q] 32)); have hRb := Reads.new (enc := fEnc) (T := 32) wa (js, q) 1; replace hRb := Lib.hid hRb; have hOut2 := Lib.hid (hOut.out.nil' hOa2.out); have hOWa := Lib.hid (hOW.out.trans hOa2.out); replace hOa := Lib.hid hOa)
      | ((refine step_append_new2 rfl (.tmp 25) (.tmp 30) (by rfl) fElem hOWa.out (by rfl) hOut2.out.own (by rfl) hRb.out (by simp only [List.length_singleton]; omega) (by unfold maxLen; simp only [List.length_singleton]; omega) ?_); intro va w5 hS5 hO5 hg5 hX5; obtain ⟨a5, c5, rfl⟩ := hS5.sl; rw [List.length_append, List.length_singleton] at hS5; have hr5 : outAt w5 o (.slice sa T.length sc) := hX5.heap hOut2.out.row (fun hx => hOut.out.ne (Option.mem_toList.1 hx)); have kC : w5.cell? ⟨o, 0, none⟩ = some (.slice sa T.length sc) := cell_of_row w5 o 0 _ _ _ hr5; have f5 : w5.frozen? ⟨o, 0, none⟩ = false := frozen_of_row _ _ _ _ _ hr5; replace hS5 := Lib.hid hS5; replace hO5 := Lib.hid hO5; replace hg5 := Lib.hid hg5; replace hX5 := Lib.hid hX5; replace hr5 := Lib.hid hr5)))
    all_goals
     obtain ⟨w1, hw1⟩ : ∃ w1 : World, w5.setCell ⟨o, 0, none⟩ (.slice a5 (T.length + 1) c5) = w1 := ⟨_, rfl⟩
     rw [hw1]
     have hO1a : Own (o :: (Value.slice sa T.length sc).ownBlock.toList) w w5 := hOa2.out.nil.trans (hX5.out.mono (fun x hx => List.mem_cons_of_mem _ hx))
     have hX1 : Own (o :: (Value.slice sa T.length sc).ownBlock.toList) w w1 := hw1 ▸ hO1a.setCell (.inl (List.mem_cons_self ..)) _
     have hne1 : (Value.slice a5 (T.length + 1) c5).ownBlock ≠ some o := fun e => by
       rcases hg5.out o (by rw [List.length_append, List.length_singleton]; exact e) with h1 | h1
       · exact hOut.out.ne h1
       · have := hOa2.out.size; omega
     have hOut1 : Out W0 w1 o (.slice a5 (T.length + 1) c5) (T ++ [(js, q)]) := hw1 ▸ Out.put hr5.out hS5.out hne1
     have hOW1 : Own [] W0 w1 := hw1 ▸ hO5.out.setCell (.inr hoW) _
     have hg1 : ∀ g, (Value.slice a5 (T.length + 1) c5).ownBlock = some g → (Value.slice sa T.length sc).ownBlock = some g ∨ w.heap.size ≤ g := fun g h => by
       rcases hg5.out g (by rw [List.length_append, List.length_singleton]; exact h) with h1 | h1
       · exact .inl h1
       · exact .inr (Nat.le_trans hOa2.out.size h1)
     have hT1 : T ++ [(js, q)] = T ++ (ownW n k).map (toF at_) := by rw [hown, ← hjs]; simp [toF]
     clear hw1 hO1a hne1 hOa2 hX5 hg5 hr5 hS5 hO5 hRb hOut2 hOWa hOa kA kB kC f5 cJ2 eJ cJ hOc c0 hdr
     obtain ⟨wI, rem0, hrng, hI, hp, hOI, hsI⟩ := ((hF0.nil' hOW1).at_ n hn).sub.range subT
     have k01 := ((hF0.nil' hOW1).at_ n hn).cells.1
     obtain ⟨r, hr⟩ : ∃ r, w1.heap.size = r := ⟨_, rfl⟩
     rw [hr] at hI hrng
     have hrr : w.heap.size ≤ r := by have := hX1.size; omega
     have hrW : W0.heap.size ≤ r := by have := hOW1.size; omega
     have hor : o ≠ r := by omega
     have hno1 : (Value.slice a5 (T.length + 1) c5).ownBlock ≠ some r := fun e => by have := (hOut1.own.block e).2; omega
     have hbel : n.bel < W0.heap.size := hF0.lt _ (foot_feet hn (by simp [Node.foot]))
     have hOutI := hOut1.nil' hOI
     have hOWI := hOW1.trans hOI
     have hXI := hX1.trans hOI.nil
     replace hp := Lib.hid hp
     replace hOutI := Lib.hid hOutI
     replace hOWI := Lib.hid hOWI
     replace hXI := Lib.hid hXI
     replace hg1 := Lib.hid hg1
     replace hT1 := Lib.hid hT1
     replace hno1 := Lib.hid hno1
     replace hR := Lib.hid hR
     replace hvb := Lib.hid hvb
     replace hcap := Lib.hid hcap
     replace hlen := Lib.hid hlen
     replace hsz := Lib.hid hsz
     replace hrr := Lib.hid hrr
     replace hrW := Lib.hid hrW
     replace hor := Lib.hid hor
     replace hbel := Lib.hid hbel
     clear hr hOut1 hOW1 hX1 hOI
     go_wp2_with fail
     go_loopg [10, 11] rem0.length (fun g s10 s11 wr => ∃ (dn rem : List (ByteArray × Nat)) (vo2 : Value) (T2 : List (ByteArray × Int)), g = rem.length ∧ IterP Value.string pEnc wr r n.bel n.sub rem ∧ Aside (n.sub.Perm (dn ++ rem) ∧ Out W0 wr o vo2 T2 ∧ Own [] W0 wr ∧ Own (o :: (Value.slice sa T.length sc).ownBlock.toList) w wr ∧ T2.Perm ((T ++ [(js, q)]) ++ (dn.flatMap (below N F k)).map (toF at_)) ∧
         (∀ g, vo2.ownBlock = some g → (Value.slice sa T.length sc).ownBlock = some g ∨ w.heap.size ≤ g) ∧ vo2.ownBlock ≠ some r))
     case atStart => exact ⟨[], rem0, (.slice a5 (T.length + 1) c5), (T ++ [(js, q)]), rfl, hI, hp.out.symm, hOutI.out, hOWI.out, hXI.out, by simp, hg1.out, hno1.out⟩
     case round =>
       obtain ⟨dn, rem, vo2, T2, rfl, hI, hpd, hOu, hOWr, hXr, hTr, hgr, hnr⟩ := hrel
       rcases hI.next Tryz.prog with ⟨hrem, hnx⟩ | ⟨r1, r2, x, d, w2, hrem, hnx, hI2, hO2, hs2, hen⟩
       · subst hrem
         rw [List.append_nil] at hpd
         have hend : ∃ vo' T', Out W0 wr o vo' T' ∧ T'.Perm (T ++ (ownW n k ++ n.sub.flatMap (below N F k)).map (toF at_)) ∧ Own [] W0 wr ∧ Own (o :: (Value.slice sa T.length sc).ownBlock.toList) w wr ∧ (∀ g, vo'.ownBlock = some g → (Value.slice sa T.length sc).ownBlock = some g ∨ w.heap.size ≤ g) := by
           refine ⟨vo2, T2, hOu, ?_, hOWr, hXr, hgr⟩
           rw [List.map_append, ← List.append_assoc, ← hT1.out]
           exact hTr.trans (((flat_perm _ hpd.symm).map _).append_left _)
         replace hend := Lib.hid hend
         clear hI hpd hOu hOWr hXr hTr hgr hnr
         go_wp2_with fail
         go_end0
         refine ⟨rfl, ?_⟩
         rw [hall.out]
         exact hend.out
       · subst hrem
         have hOW2 : Own [] W0 w2 := hOWr.trans' hO2 (fun y hy => .inr (by simp at hy; subst hy; exact hrW.out))
         have hX2 : Own (o :: (Value.slice sa T.length sc).ownBlock.toList) w w2 := hXr.trans' hO2 (fun y hy => .inr (by simp at hy; subst hy; exact hrr.out))
         have hOu2 : Out W0 w2 o vo2 T2 := hOu.own' hO2 (by simp; exact hor.out) (fun g hg => by simp; intro e; exact hnr (e ▸ hg))
         have hRw := hR.out.own hX2 (fun b hb hx => by
           rcases List.mem_cons.1 hx with h1 | h1
           · exact (hvb.out b hb).1 h1
           · exact (hvb.out b hb).2 (Option.mem_toList.1 h1))
         obtain ⟨v1, hsl, hR1, a1, hv1⟩ := hRw.full lElem hcap.out
         subst hv1
         replace hsl : ∀ W, (Instr.sliceAt 23 (.slice a at_.length cp) none (some (.int .i64 at_.length)) (some (.int .i64 at_.length))).run Tryz.prog W = .ok (.slice a1 at_.length at_.length) W := hsl
         have hA3 : Own [] w2 (w2.alloc (.cells #[.string x] 9)) := (Own.refl _ _).alloc _
         obtain ⟨va, w4, hap, hS4, hO4⟩ := run_append_full (w := w2.alloc (.cells #[.string x] 9)) lElem 23 (hR1.nil' hA3) (Reads.new (enc := lEnc) (T := 9) w2 x 1) (by omega) (by unfold maxLen; omega)
         have hO24 : Own [] w2 w4 := hA3.trans hO4
         have hmem : (x, d) ∈ n.sub := hpd.symm.subset (by simp)
         have hns : nSub N n.blk x = some d := by unfold nSub; rw [hf]; exact aGet_of_mem (hK n hn).1 hmem
         have hcnt : T2.length + (allN N F d k).length ≤ 1000 := by
           have h1 := hTr.length_eq
           have h2 := (flat_perm (below N F k) hpd).length_eq
           have h3 := hlen.out
           have h4 : (T ++ [(js, q)]).length = T.length + (ownW n k).length := (congrArg List.length hT1.out).trans (by simp)
           have h5 : (below N F k (x, d)).length = (allN N F d k).length := by unfold below; rw [List.length_map]
           simp only [List.length_append, List.length_map, List.flatMap_append, List.flatMap_cons] at h1 h2 h3 h4
           have h6 : (n.sub.flatMap fun p => (allN N F p.2 k).map fun e => (p.1 :: e.1, e.2)).length = (n.sub.flatMap (below N F k)).length := rfl
           omega
         have hszd : ∀ e ∈ allN N F d k, (joinB ((at_ ++ [x]) ++ e.1)).size ≤ 1000 := fun e he => by
           have h1 := hsz.out (x :: e.1, e.2) (List.mem_append.2 (.inr (List.mem_flatMap.2 ⟨(x, d), hmem, List.mem_map.2 ⟨e, he, rfl⟩⟩)))
           rw [List.append_assoc]
           exact h1
         have hb2 := fun g hg => hOu2.own.block (g := g) hg
         have hsz3 : (w2.alloc (.cells #[.string x] 9)).heap.size = w2.heap.size + 1 := by simp
         have hol2 : o < w2.heap.size := lt_of_heap hOu2.row
         have CH := IH x d hns (at_ ++ [x]) va vo2 T2 w4 (by simp; omega) (hS4.reads lEnc_len) hS4.capOk (fun b hb => by
           have h1 := (hS4.block hb).1
           exact ⟨by omega, fun e => by have := (hb2 _ e).2; omega⟩) (hOW2.trans hO24) (hOu2.nil' hO24) hcnt hszd
         rw [toF_below at_ N F k (x, d)] at CH
         have hI4 := hI2.own hO24 (by simp) (by simp)
         have hr4 : r < w4.heap.size := by have := hI4.lt; omega
         have hpd2 : n.sub.Perm ((dn ++ [(x, d)]) ++ (r1 ++ r2)) := hpd.trans (by rw [List.append_assoc]; exact List.Perm.append_left dn List.perm_middle)
         obtain ⟨aa, ca, rfl⟩ := hS4.sl
         rw [List.length_append, List.length_singleton] at hap CH
         have hX4 := hX2.trans hO24.nil
         have hz4 : w.heap.size ≤ w4.heap.size := hX4.size
         have hWb : ∀ g, vo2.ownBlock = some g → W0.heap.size ≤ g := fun g hg => (hb2 g hg).1
         replace CH := Lib.hid CH
         replace hI4 := Lib.hid hI4
         replace hpd2 := Lib.hid hpd2
         replace hTr := Lib.hid hTr
         replace hgr := Lib.hid hgr
         replace hnr := Lib.hid hnr
         replace hX4 := Lib.hid hX4
         replace hr4 := Lib.hid hr4
         replace hz4 := Lib.hid hz4
         replace hWb := Lib.hid hWb
         clear hI hI2 hpd hOu hOu2 hOWr hOW2 hXr hX2 hRw hR1 hA3 hS4 hO4 hO24 hmem hns hcnt hszd hb2 hsz3 hol2 hO2 hs2
         go_wp2_with (first
           | (at_builtin; refine wpList_append_of2 rfl (.tmp 49) (.tmp 51) rfl rfl rfl hap ?_)
           | (go_at_call 31; refine CH.out.mono ?_; rintro e w5 ⟨rfl, vo3, T3, hOu3, hT3, hOW3, hX3, hg3⟩; have hF3 := Lib.hid (And.intro hOu3 (And.intro hT3 (And.intro hOW3 (And.intro hX3 hg3)))); clear hOu3 hT3 hOW3 hX3 hg3))
         go_roundg (r1 ++ r2).length
         case measure => simp
         case rel =>
           obtain ⟨hOu3, hT3, hOW3, hX3, hg3⟩ := hF3.out
           refine ⟨dn ++ [(x, d)], r1 ++ r2, vo3, T3, rfl, hI4.out.own hX3 (fun hx => ?_) (fun hx => ?_), hpd2.out, hOu3, hOW3, hX4.out.trans' hX3 (fun y hy => ?_), ?_, fun g hg => ?_, fun e => ?_⟩
           · rcases List.mem_cons.1 hx with h1 | h1
             · exact hor.out h1.symm
             · exact hnr.out (Option.mem_toList.1 h1)
           · rcases List.mem_cons.1 hx with h1 | h1
             · have := hbel.out; omega
             · have := hWb.out _ (Option.mem_toList.1 h1); have := hbel.out; omega
           · rcases List.mem_cons.1 hy with h1 | h1
             · exact .inl (by rw [h1]; exact List.mem_cons_self ..)
             · rcases hgr.out y (Option.mem_toList.1 h1) with h2 | h2
               · exact .inl (List.mem_cons_of_mem _ (Option.mem_toList.2 h2))
               · exact .inr h2
           · refine hT3.trans ((hTr.out.append_right _).trans ?_)
             rw [List.flatMap_append, List.flatMap_cons, List.flatMap_nil, List.append_nil, List.map_append, List.append_assoc]
           · rcases hg3 g hg with h1 | h1
             · exact hgr.out g h1
             · exact .inr (Nat.le_trans hz4.out h1)
           · rcases hg3 r e with h1 | h1
             · exact hnr.out h1
             · have := hr4.out; omega
end Go.Proofs.YtldagaliddgdjaaGreatDoor
