/- slices.Collect, slices.Sorted at uint64; alias.All: all aliases, sorted. -/
import Derived.Test.YtjbmmgclkhigiaaUK
import Derived.Test.YtjbmmgclkhigiaaNew
set_option linter.unusedSimpArgs false
set_option linter.unusedVariables false
namespace Go.Proofs.Ytjbmmgclkhigiaa
open Go.RowKit

def uL (x : Int) : List Value := [.int .u64 x]
theorem uL_len (x : Int) : (uL x).length = 1 := rfl
theorem rowOf_uL (l : List Int) : rowOf uL l = l.map eU := by
  induction l with
  | nil => rfl
  | cons x r ih => unfold rowOf at *; rw [List.flatMap_cons, ih]; rfl
theorem uElem : Elem Try.prog 39 23 uL 1 8 where
  ut := Try.underlying39
  info := by obtain ⟨i, h1, h2, h3, h4⟩ := info_parts u64Info; exact ⟨i, _, h1, h2, h3, h4, rfl⟩
  pos := by omega
  len := fun _ => rfl
  one x u hu := by simp only [uL, List.mem_cons, List.not_mem_nil, or_false] at hu; subst hu; rfl

/-! ### sorts of nothing -/
set_option maxRecDepth 100000 in
set_option maxHeartbeats 2000000 in
theorem ins64_nil (a : Option Addr) (c : Nat) (W : World) : Calls Try.prog 35 #[.slice a 0 c, .int .i64 0, .int .i64 0] W fun e w' => e = .returned (.tuple #[]) ∧ W = w' := by
  go_enter Try.func35, Try.ntmps35
  go_wp2_with fail
  refine wp_loop_rounds 1 ?_
  rw [rounds_succ]
  go_wp2_with fail
  go_end0
  exact ⟨rfl, rfl⟩
set_option maxRecDepth 100000 in
set_option maxHeartbeats 2000000 in
theorem pdq64_nil (a : Option Addr) (c : Nat) (n : Int) (W : World) : Calls Try.prog 33 #[.slice a 0 c, .int .i64 0, .int .i64 0, .int .i64 n] W fun e w' => e = .returned (.tuple #[]) ∧ W = w' := by
  have H := Lib.hid (fun W => ins64_nil a c W)
  go_enter Try.func33, Try.ntmps33
  go_wp2_with fail
  refine wp_loop_rounds 1 ?_
  rw [rounds_succ]
  go_wp2_with (go_at_call 35; refine (H.out _).mono ?_; rintro e w' ⟨rfl, rfl⟩)
  (try simp only [Exit.inBlock, Exit.then]); refine bodyPost_ret (results_none rfl _ _ _) rfl ?_
  exact ⟨rfl, rfl⟩
set_option maxRecDepth 100000 in
set_option maxHeartbeats 2000000 in
theorem sort64_nil (a : Option Addr) (c : Nat) (W : World) : Calls Try.prog 30 #[.slice a 0 c] W fun e w' => e = .returned (.tuple #[]) ∧ W = w' := by
  have H := Lib.hid (fun n W => pdq64_nil a c n W)
  have hL := Lib.hid (fun W => len64 0 (by omega) W)
  go_enter Try.func30, Try.ntmps30
  go_wp2_with (first
    | (go_at_call 34; refine (hL.out _).mono ?_; rintro e w' ⟨⟨k, hk, hkn, rfl⟩, rfl⟩; replace hkn := Lib.hid hkn)
    | (go_at_call 33; refine (H.out _ _).mono ?_; rintro e w' ⟨rfl, rfl⟩))
  go_end0
  exact ⟨rfl, rfl⟩

/-! ### what a sorted row is, as a list -/
theorem sorted_list {d R : Array Int} {n : Nat} (hd : d.size = n) (hp : Sort.PermIn 0 n d R) (hs : Sort.SortedIn lt6 0 n R) : R.toList.Perm d.toList ∧ R.toList.Pairwise (· ≤ ·) := by
  have hR : R.size = n := hp.1.trans hd
  constructor
  · have h := hp.2.2
    have e1 : R.extract 0 n = R := by rw [← hR]; simp
    have e2 : d.extract 0 n = d := by rw [← hd]; simp
    rwa [e1, e2] at h
  · rw [List.pairwise_iff_getElem]
    intro i j hi hj hij
    have hi' : i < R.size := by simpa using hi
    have hj' : j < R.size := by simpa using hj
    have := hs i j (Nat.zero_le _) hij (by omega)
    rw [getElem!_pos R j hj', getElem!_pos R i hi'] at this
    simp only [lt6, Sort.ltInt, decide_eq_false_iff_not] at this
    simp only [Array.getElem_toList]
    omega
theorem holds_list {w : World} {g : Nat} {cur : Array Value} {T : TypeId} {ss : List Int} (hg : w.heap[g]? = some (.cells cur T (0, 0))) (h : cur.toList.take ss.length = ss.map eU) : Sort.Holds eU w g 0 ss.toArray := fun j hj => by
  have hj' : j < ss.length := by simpa using hj
  refine ⟨?_, frozen_of_row _ g (0 + j) _ _ hg⟩
  rw [cell_of_row _ _ _ _ _ _ hg, Nat.zero_add]
  have := congrArg (fun q => q[j]?) h
  simp only [List.getElem?_take, if_pos hj', Array.getElem?_toList, List.getElem?_map] at this
  rw [this, List.getElem?_eq_getElem hj', getElem!_pos ss.toArray j hj]
  rfl
theorem reads_holds {w : World} {g n cap : Nat} {R : Array Int} (hn : R.size = n) (h : Sort.Holds eU w g 0 R) : Reads uL w (.slice (some ⟨g, 0, none⟩) n cap) R.toList := by
  refine .inr ⟨g, 0, cap, by simp [hn], fun j u hu => ?_⟩
  rw [rowOf_uL] at hu
  simp only [List.getElem?_map, Option.map_eq_some_iff, Array.getElem?_toList] at hu
  obtain ⟨x, hx, rfl⟩ := hu
  obtain ⟨hj, hx⟩ := Array.getElem?_eq_some_iff.1 hx
  rw [(h j hj).1, getElem!_pos R j hj, hx]

set_option maxRecDepth 100000 in
theorem keys_u (mb : Option Nat) (W : World) : Calls Try.prog 25 #[.map mb] W fun e w' => e = .returned (.func (.func 31) #[] #[.pointer (some ⟨W.heap.size, 0, none⟩)]) ∧ w' = W.alloc (.cells #[.map mb] 54) := by
  go_enter Try.func25, Try.ntmps25
  go_wp2_with fail
  go_ret
  exact ⟨rfl, rfl⟩
/-- A sorted list of just these. -/
def SortP (B : ATab) (w : World) (e : Ending) (w' : World) : Prop := ∃ (v : Value) (ks : List Int), e = .returned v ∧ ks.Perm (B.map (·.1)) ∧ ks.Pairwise (· ≤ ·) ∧ Reads uL w' v ks ∧ Own [] w w' ∧ ∀ g, v.ownBlock = some g → w.heap.size ≤ g
set_option maxRecDepth 100000 in
set_option maxHeartbeats 4000000 in
theorem sorted_u (Bm m : Nat) (B : ATab) (w : World) (hBm : Bm < w.heap.size) (hc : w.cell? ⟨Bm, 0, none⟩ = some (.map (some m))) (hM : MapP aKey sVal w m B) (hlen : B.length ≤ 1000000) :
    Calls Try.prog 24 #[.func (.func 31) #[] #[.pointer (some ⟨Bm, 0, none⟩)]] w (SortP B w) := by
  have cA := Lib.hid ((callsIn_wide (n := 5)).1 (appseq_u 5 (by omega) Bm m B w hBm hc hM hlen))
  have cC : Calls Try.prog 29 #[.func (.func 31) #[] #[.pointer (some ⟨Bm, 0, none⟩)]] w fun e W' => ∃ (v : Value) (ss : List Int), e = .returned v ∧ ss.Perm (B.map (·.1)) ∧ W'.ownsRow w.heap.size 23 1 v ss.length (ss.map eU) ∧ Below w.heap.size w W' := by
    clear hc hM
    go_enter Try.func29, Try.ntmps29
    go_wp2_with (go_at_call 32; refine cA.out.mono ?_; rintro e w1 ⟨v, ss, rfl, hp, hr, hb⟩; replace hp := Lib.hid hp; replace hr := Lib.hid hr; replace hb := Lib.hid hb)
    go_ret
    exact ⟨v, ss, rfl, hp.out, hr.out, hb.out⟩
  replace cC := Lib.hid cC
  clear hc hM cA
  go_enter Try.func24, Try.ntmps24
  go_wp2_with fail
  refine cC.out.mono ?_
  rintro e w1 ⟨v, ss, rfl, hp, hr, hb⟩
  have hO : Own [] w w1 := Own.of_below hb (Nat.le_refl _)
  have hl : ss.length = B.length := by have := hp.length_eq; simpa using this
  replace hO := Lib.hid hO
  replace hp := Lib.hid hp
  rcases hr.2 with ⟨rfl, hz⟩ | ⟨g, cap, cur, rfl, hbase, hg, h1, h2, h3, h4⟩
  · have hs : ss = [] := List.eq_nil_of_length_eq_zero hz
    subst hs
    have H := Lib.hid (fun W => sort64_nil none 0 W)
    clear hr hb hl hz
    go_wp2_with (go_at_call 30; refine (H.out _).mono ?_; rintro e w' ⟨rfl, rfl⟩)
    go_ret
    exact ⟨_, [], rfl, hp.out, List.Pairwise.nil, .inl ⟨rfl, rfl⟩, hO.out, fun g hg => by cases hg⟩
  · have hH := holds_list (ss := ss) hg (by simpa using h4)
    have H := Lib.hid (sort64 g 0 cap ss.length ss.toArray (by simp) w1 hH (by omega))
    clear hr hb hH h4
    generalize hN : ss.length = N at *
    replace hN := Lib.hid hN
    replace hg := Lib.hid hg
    replace h3 := Lib.hid h3
    replace hl := Lib.hid hl
    go_wp2_with (go_at_call 30; refine H.out.mono ?_; rintro e w' ⟨rfl, R, hR, hP, hS⟩; replace hR := Lib.hid hR; replace hP := Lib.hid hP; replace hS := Lib.hid hS)
    go_ret
    obtain ⟨q1, q2⟩ := sorted_list (by simpa using hN.out) hP.out hS.out
    exact ⟨_, R.toList, rfl, q1.trans hp.out, q2, reads_holds (hP.out.1.trans (by simpa using hN.out)) hR.out.row, hO.out.trans' hR.out.own (fun x hx => by simp at hx; subst hx; exact .inr hbase), fun q hq => by cases hq; exact hbase⟩
set_option maxRecDepth 100000 in
set_option maxHeartbeats 4000000 in
theorem all_u (b m : Nat) (l : ATab) (w : World) (h : Tab w b m l) (hlen : l.length ≤ 1000000) : Calls Try.prog 13 #[.pointer (some ⟨b, 0, none⟩)] w (SortP l w) := by
  have c0 : w.cell? ⟨b, 0, none⟩ = some (.map (some m)) := by rw [cell_of_row _ _ _ _ _ _ h.row]; rfl
  have hq := fun w r => run_eql_map_nil (P := Try.prog) w 54 23 62 r aMapT
  have cK := Lib.hid (fun W => keys_u (some m) W)
  have hO1 : Own [] w (w.alloc (.cells #[.map (some m)] 54)) := (Own.refl _ _).alloc _
  have cS := Lib.hid (sorted_u w.heap.size m l (w.alloc (.cells #[.map (some m)] 54)) (by simp) (by rw [cell_of_row _ _ _ _ _ _ (heap_alloc_new w _)]; rfl) (h.map.own hO1 (by simp)) hlen)
  replace hO1 := Lib.hid hO1
  clear h
  go_enter Try.func13, Try.ntmps13
  go_wp2_with (first
    | (go_at_call 25; refine (cK.out _).mono ?_; rintro e w' ⟨rfl, rfl⟩)
    | (go_at_call 24; refine cS.out.mono ?_; rintro e w1 ⟨v, ks, rfl, hp, hs, hr, hO, hb⟩; replace hp := Lib.hid hp; replace hs := Lib.hid hs; replace hr := Lib.hid hr; replace hO := Lib.hid hO; replace hb := Lib.hid hb)
    | (go_at_call 23; go_in))
  go_ret
  exact ⟨v, ks, rfl, hp.out, hs.out, hr.out, hO1.out.trans hO.out, fun q hq => Nat.le_trans hO1.out.size (hb.out q hq)⟩
end Go.Proofs.Ytjbmmgclkhigiaa
