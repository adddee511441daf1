/- maps.Keys over the aliases, slices.Collect, slices.Sorted at uint64; alias.All. -/
import Derived.Test.YtjbmmgclkhigiaaU7
import Derived.Test.YtjbmmgclkhigiaaAlias
import Derived.RangeFuncBox
import Derived.RangeFuncLeaves
import Derived.RangeFuncNested
import Derived.Shelf.Abstract
import Derived.WalkKit
import Derived.OwnWalkIn
import Derived.TacticsInMore
import Derived.LoopNIn
import Derived.LoopIn
import Derived.Sort.LoopGhostIn
import Derived.Maps.AppendAt
set_option linter.unusedSimpArgs false
set_option linter.unusedVariables false
namespace Go.Proofs.Ytjbmmgclkhigiaa
open Go.RowKit Go.Shelf

attribute [local go_sem] Oper.semAt_some

theorem Own.grew {w w' : World} (h : Own [] w w') : w.grownBy w' none := ⟨h.os, h.tape, h.output, h.size, fun k hk _ => h.block k hk (by simp)⟩
theorem Own.grew1 {w w' : World} {r : Nat} (h : Own [r] w w') : w.grownBy w' (some r) := ⟨h.os, h.tape, h.output, h.size, fun k hk hn => h.block k hk (by simpa using fun e => hn (by rw [e]))⟩
section
variable {κ α : Type} {ek : κ → Value} {ev : α → Value}
theorem IterP.walk {w : World} {r m : Nat} {l rem : List (κ × α)} (h : IterP ek ev w r m l rem) : ∃ o : Obj, w.heap[r]? = some o ∧ o.isWalk = true := by
  obtain ⟨l', _, _, es, clock, since, seen, c0, hr, _⟩ := h
  exact ⟨_, hr, rfl⟩
theorem IterP.walks {w w' : World} {r m : Nat} {l rem : List (κ × α)} (h : IterP ek ev w r m l rem) (hk : KeepsWalks w w') : IterP ek ev w' r m l rem := by
  obtain ⟨l', hp, hne, es, clock, since, seen, c0, hr, hm, rest⟩ := h
  exact ⟨l', hp, hne, es, clock, since, seen, c0, hk.same r _ hr rfl, hk.same m _ hm rfl, rest⟩
end

set_option maxRecDepth 100000 in
set_option maxHeartbeats 4000000 in
/-- 'func(yield func(K) bool) { for k := range m { if !yield(k) { return } } }'. -/
theorem keys1_u (n : Nat) (hn : 1 ≤ n) (l Bm m : Nat) (B : ATab) (J Jx : List Int → World → Prop)
    (hY : ∀ pre x W, J pre W → pre.length < B.length → YieldAt Fence.wide (n - 1) Try.prog l #[.int .u64 x] W fun e W' =>
      (e = .returned (.bool true) ∧ J (pre ++ [x]) W' ∧ KeepsWalks W W') ∨ (e = .returned (.bool false) ∧ Jx (pre ++ [x]) W'))
    (W : World) (hJ : AbidesFrom W.heap.size J) (hc : W.cell? ⟨Bm, 0, none⟩ = some (.map (some m))) (hM : MapP aKey sVal W m B) (h0 : J [] W) :
    CallsIn Fence.wide n Try.prog 31 #[.func (.yield l) #[] #[], .pointer (some ⟨Bm, 0, none⟩)] W fun e W' => (∃ v, e = .returned v) ∧
      ((∃ ys, ys.Perm (B.map (·.1)) ∧ J ys W') ∨ (∃ pre, True ∧ Jx pre W')) := by
  obtain ⟨w1, rem, hr, hI, hperm, hO, hsz⟩ := hM.range (P := Try.prog) (t := 54) aMapT
  have hJ1 : J [] w1 := hJ [] W w1 none h0 hO.grew (fun r e => by cases e)
  obtain ⟨r, hrr⟩ : ∃ r, r = W.heap.size := ⟨_, rfl⟩
  rw [← hrr] at hI hr
  have hlen := hperm.length_eq
  have hH : Hid (rem.Perm B ∧ rem.length = B.length ∧ r = W.heap.size ∧ IterP aKey sVal w1 r m B rem ∧ J [] w1) := Lib.hid ⟨hperm, hlen, hrr, hI, hJ1⟩
  clear hO hM hJ1 h0 hI hperm hlen hrr hsz
  refine callsIn_of_wp Try.func31 rfl trivial ?_ rfl
  simp only [Try.ntmps31, List.size_toArray, List.length_cons, List.length_nil, Nat.reduceAdd, Nat.reduceSub, Array.replicate_succ, Array.replicate_zero, List.push_toArray, List.append_toArray, List.nil_append, List.cons_append]
  gi_wp2
  gi_loopg [3] rem.length (fun k _ wr => ∃ (pre : List Int) (rest : ATab), rest.length ≤ k ∧ Aside (IterP aKey sVal wr r m B rest) ∧ Aside ((pre ++ rest.map (·.1)).Perm (B.map (·.1))) ∧ Aside (J pre wr))
  case atStart => exact ⟨[], rem, Nat.le_refl _, hH.out.2.2.2.1, by show List.Perm _ _; simpa using hH.out.1.map (·.1), hH.out.2.2.2.2⟩
  case round =>
    obtain ⟨pre, rest, hk, hI, hP, hJp⟩ := hrel
    rcases hI.out.next Try.prog with ⟨rfl, hnx⟩ | ⟨r1, r2, k, v, w2, rfl, hnx, hI2, hO2, hsz2, hen⟩
    · clear hr
      gi_wp2
      go_end0
      exact ⟨⟨_, rfl⟩, .inl ⟨pre, by simpa using hP.out, hJp.out⟩⟩
    · have hJ2 : J pre w2 := hJ pre _ w2 (some r) hJp.out hO2.grew1 (fun x e => by cases e; exact ⟨by rw [hH.out.2.2.1]; exact Nat.le_refl _, hI.out.walk⟩)
      have hlt : pre.length < B.length := by
        have := hP.out.length_eq
        simp at this
        omega
      obtain ⟨fn, tmps, assign, body, hy, hR⟩ := hY pre k w2 hJ2 hlt
      have hI2' : Aside (IterP aKey sVal w2 r m B (r1 ++ r2)) := hI2
      have hk' : (r1 ++ r2).length < (r1 ++ (k, v) :: r2).length := by simp
      have hP' : Aside ((pre ++ [k] ++ (r1 ++ r2).map (·.1)).Perm (B.map (·.1))) := by
        refine List.Perm.trans (?_ : List.Perm _ _) hP.out
        simp only [List.map_append, List.map_cons, List.append_assoc, List.cons_append, List.nil_append]
        exact List.Perm.append_left _ (List.perm_middle.symm)
      clear hr hO2 hsz2 hI2 hJ2 hlt
      unfold aKey at hnx hen
      gi_wp2
      refine hR.mono ?_
      rintro e W3 (⟨rfl, hJ3, hk3⟩ | ⟨rfl, hJx3⟩)
      · have hI3 : Aside (IterP aKey sVal W3 r m B (r1 ++ r2)) := hI2'.out.walks hk3
        replace hJ3 := Lib.hid hJ3
        clear hnx hen hy hk3
        gi_wp2
        gi_roundg (r1 ++ r2).length
        case measure => omega
        case rel => exact ⟨pre ++ [k], r1 ++ r2, Nat.le_refl _, hI3, hP', hJ3.out⟩
      · replace hJx3 := Lib.hid hJx3
        clear hnx hen hy
        gi_wp2
        refine bodyPost_ret (results_none rfl _ _ _) rfl ?_
        exact ⟨⟨_, rfl⟩, .inr ⟨pre ++ [k], trivial, hJx3.out⟩⟩
theorem keysStops_u (n : Nat) (hn : 1 ≤ n) (Bm m : Nat) (B : ATab) (w : World) (hBm : Bm < w.heap.size) (hc : w.cell? ⟨Bm, 0, none⟩ = some (.map (some m))) (hM : MapP aKey sVal w m B) :
    SeqStopsK Fence.wide n Try.prog 31 #[.pointer (some ⟨Bm, 0, none⟩)] (fun x : Int => #[Value.int .u64 x]) KeepsWalks (fun ys => ys.Perm (B.map (·.1))) (fun _ => True) B.length w :=
  fun l J Jx W hW hJ _ hY h0 => keys1_u n hn l Bm m B J Jx hY W hJ ((hW.cell (p := ⟨Bm, 0, none⟩) hBm).trans hc) (hM.of_heap (hW.block m hM.lt)) h0
theorem u64Info : (Try.prog.info? 23).map (fun i => (i.zero, i.size, i.bytes)) = some (some (.int .u64 0), 1, 8) := by kernel_rfl
set_option maxRecDepth 100000 in
set_option maxHeartbeats 4000000 in
theorem appseq_u (n : Nat) (hn : 3 ≤ n) (Bm m : Nat) (B : ATab) (w : World) (hBm : Bm < w.heap.size) (hc : w.cell? ⟨Bm, 0, none⟩ = some (.map (some m))) (hM : MapP aKey sVal w m B) (hlen : B.length ≤ 1000000) :
    CallsIn Fence.wide n Try.prog 32 #[.slice none 0 0, .func (.func 31) #[] #[.pointer (some ⟨Bm, 0, none⟩)]] w fun e W' =>
      ∃ (v : Value) (ss : List Int), e = .returned v ∧ ss.Perm (B.map (·.1)) ∧ W'.ownsRow w.heap.size 23 1 v ss.length (ss.map eU) ∧ Below w.heap.size w W' := by
  have h1 : 1 ≤ n := by omega
  have hml : (1000000 : Nat) ≤ maxLen := by unfold maxLen; omega
  obtain ⟨i0, hi, hz0, hz1, hz2⟩ := info_parts u64Info
  have bO := Boxed.new w 39 (.slice none 0 0)
  have hB0 : Below w.heap.size w (w.alloc (.cells #[.slice none 0 0] 39)) := (Below.refl _ w).alloc (Nat.le_refl _) _
  have hst := keysStops_u (n - 1) (by omega) Bm m B (w.alloc (.cells #[.slice none 0 0] 39)) (by simp; omega) (by rw [hB0.cell (p := ⟨Bm, 0, none⟩) hBm]; exact hc) (hM.of_heap (hB0.block m hM.lt))
  refine callsIn_of_wp_marks Try.func32 rfl trivial ?_ rfl
  simp only [Try.ntmps32, List.size_toArray, List.length_cons, List.length_nil, Nat.reduceAdd, Nat.reduceSub, Array.replicate_succ, Array.replicate_zero, List.push_toArray, List.append_toArray, List.nil_append, List.cons_append]
  clear hc hM
  gi_wp2
  refine wpIn_rangeFunc_ownF rfl h1 (gf := 31) (lb := #[.pointer (some ⟨Bm, 0, none⟩)]) rfl trivial (enters_of Try.func31 (by kernel_rfl) rfl)
    hst walksK_t walksK_b (Below.refl _ _) (fun _ => rfl)
    (fun pre W => (∃ v, Boxed W w.heap.size 39 v ∧ W.ownsRow w.heap.size 23 1 v pre.length (pre.map (Value.int .u64)) ∧ (v = .slice none 0 0 ↔ pre = [])) ∧ Below w.heap.size w W)
    (fun _ _ _ => False)
    (OwnFrom.and (Own.from (holdsRow_own w.heap.size w.heap.size 39 23 1 (fun pre : List Int => pre.length) (fun pre => pre.map (Value.int .u64)) (fun pre v => v = .slice none 0 0 ↔ pre = [])) _) (ownFrom_below (Nat.le_refl _) (by first | simp | (simp; omega))))
    (fun _ _ _ _ _ hs _ _ => hs)
    ⟨⟨_, bO, World.ownsRow_nil _ _ _ _, by simp⟩, hB0⟩
    (fun x => { tmps := #[.slice none 0 0, .func (.func 31) #[] #[.pointer (some ⟨Bm, 0, none⟩)], .pointer (some ⟨w.heap.size, 0, none⟩), undef, .slice none 0 0, .int .u64 x, .func (.func 31) #[] #[.pointer (some ⟨Bm, 0, none⟩)], .int .u64 x, undef, undef, undef, undef, undef], defers := [] }) ?assign ?body ?done ?stop
  case assign =>
    intro l x W K hK
    gi_wp2
    exact hK
  case body =>
    rintro l pre x W ⟨⟨v, hv, hrow, hnil⟩, hB⟩ hlt
    have hc := hv.cell
    gi_wp2_with (gi_at_builtin; refine wpListIn_append_own _ rfl _ _ 39 rfl w.heap.size 23 i0 (.int .u64 0) 1 8 Try.underlying39 hi hz0 hz1 hz2 rfl (by decide) _ _ _ rfl (hrow.alloc _) ⟨W.heap.size, 0, none⟩ 1 1 [.int .u64 x] rfl rfl (cell_one_new _ _ _) (by simp [Value.oneCell']) (by omega) (by omega) (by have := hB.size; simp; omega) ?_; intro v' w1 hown' hgrow _; obtain ⟨g', cap', rfl⟩ := ownsRow_succ hown'; obtain ⟨hv1, hv2, hr2, hk2, hb2⟩ := hv.appended (by decide) hrow hB.size (Nat.le_refl _) hown' hgrow; have hc1 := hv1.cell; have hf1 := hv1.frozen)
    exact ⟨hk2, hk2.walks, ⟨_, hv2, by simpa using hr2, by simp⟩, hB.trans hb2⟩
  case done =>
    rintro D ys W hD hS ⟨⟨v, hv, hrow, hnil⟩, hB⟩ hK
    have hc := hv.cell
    gi_wp2
    refine ⟨by simp, .inl ⟨_, _, rfl, run_takeDeferred hK, ?_⟩⟩
    exact ⟨_, results_tmp rfl _ _ _, v, ys, rfl, hS, ownsRow_putObj hrow _ hK rfl, hB.trans (belowK_b (w := w) (Nat.le_refl _) W D _ _ (by simp at hD; omega) hK rfl rfl)⟩
  case stop =>
    rintro D c pre W _ _ h _
    exact h.elim
end Go.Proofs.Ytjbmmgclkhigiaa
