/- spark.Take of an entry of a node that nobody knows: it is asked for its birth (chapter 37). -/
import Derived.Test.YtecociaolohfmaaGreatDoorSpKnow
import Derived.Test.YtecociaolohfmaaGreatDoorSpTell
import Derived.Test.YtecociaolohfmaaGreatDoorSpAsk
import Derived.Deep.RegionHeld3
import Derived.Laws.EntriesVeiled
set_option linter.unusedSimpArgs false
set_option linter.unusedVariables false
namespace Go.Proofs.YtecociaolohfmaaGreatDoor
open Go.RowKit

def gB : ByteArray := ⟨#[103]⟩
def nB : ByteArray := ⟨#[110]⟩
def topicB : ByteArray := ⟨#[115, 112, 66, 118, 49, 46, 48, 47, 103, 47, 78, 68, 65, 84, 65, 47, 110]⟩
theorem spOf_topic : spOf topicB = ⟨3, gB, nB, ⟨#[]⟩⟩ := by kernel_rfl
theorem gB_ne : (gB.toList == []) = false := by rw [Lib.toList_data]; rfl
theorem nB_ne : (nB.toList == []) = false := by rw [Lib.toList_data]; rfl
/-- An entry at work on a spark. -/
structure TS (w0 w : World) (p m h bb r b : Nat) (l : List ((ByteArray × ByteArray) × Value)) (asked : Int) (x : Ent) : Prop where
  en : EntAt w b x
  sp : w.heap[p]? = some (.cells #[.map (some m), Ptr h, Ptr bb, Ptr r, .int .i64 asked] 30 (0, 0))
  nm : MapS keyEnc w m l
  ra : w.heap[r]? = some (.cells #[.int .i64 10, .slice none 0 0, .bool true] 171 (0, 0))
  ne : b ≠ p ∧ b ≠ m ∧ b ≠ r ∧ p ≠ m ∧ p ≠ r ∧ m ≠ r
  own : Own [p, m, r] w0 w
  bf : w0.heap.size ≤ b
section
variable {w0 w w' : World} {p m h bb r b : Nat} {l : List ((ByteArray × ByteArray) × Value)} {asked : Int} {x y : Ent}
theorem TS.nil' (H : TS w0 w p m h bb r b l asked x) (ho : Own [] w w') : TS w0 w' p m h bb r b l asked x :=
  ⟨H.en.own ho (by simp), ho.heap H.sp (by simp), H.nm.own ho (by simp), ho.heap H.ra (by simp), H.ne, H.own.trans ho.nil, H.bf⟩
theorem TS.set (H : TS w0 w p m h bb r b l asked x) {S : List Nat} (ho : Own S w w') (hS : ∀ z ∈ S, z = b ∨ w.heap.size ≤ z ∨ (w0.heap.size ≤ z ∧ z ≠ p ∧ z ≠ m ∧ z ≠ r)) (he : EntAt w' b y) : TS w0 w' p m h bb r b l asked y := by
  obtain ⟨h1, h2, h3, h4, h5, h6⟩ := H.ne
  have hp := lt_of_heap H.sp
  have hm := H.nm.lt
  have hr := lt_of_heap H.ra
  have hno : ∀ z, z < w.heap.size → z ≠ b → (z = p ∨ z = m ∨ z = r) → z ∉ S := fun z hz hzb h7 hx => by
    rcases hS z hx with h8 | h8 | h8
    · exact hzb h8
    · omega
    · rcases h7 with h7 | h7 | h7 <;> omega
  refine ⟨he, ho.heap H.sp (hno _ hp (Ne.symm h1) (.inl rfl)), H.nm.own ho (hno _ hm (Ne.symm h2) (.inr (.inl rfl))), ho.heap H.ra (hno _ hr (Ne.symm h3) (.inr (.inr rfl))), H.ne, H.own.trans' ho (fun z hz => .inr ?_), H.bf⟩
  have := H.own.size
  have := H.bf
  rcases hS z hz with h8 | h8 | h8 <;> omega
theorem ts_pass (H : TS w0 w p m h bb r b l asked x) (hk : x.s.k = 3) : Calls Tryz.prog 26 #[Ptr p, Ptr b] w fun e w' => e = .returned (.bool true) ∧ w = w' := by
  have := pass_any p b x w H.en
  rw [hk] at this
  exact this
theorem ts_state (H : TS w0 w p m h bb r b l asked x) (hk : x.s.k = 3) : Calls Tryz.prog 27 #[Ptr p, Ptr b] w fun e w' => e = .returned (.bool true) ∧ TS w0 w' p m h bb r b l asked { x with vn := x.s.n } ∧ Own [b] w w' :=
  (state_node p b x w H.en (by rw [hk]; decide)).mono fun e w' ⟨h1, h2, h3⟩ => ⟨h1, H.set h2 (by simp) h3, h2⟩
theorem ts_know (H : TS w0 w p m h bb r b [] asked x) (hg : (x.s.g.toList == []) = false) (hn : (x.s.n.toList == []) = false) : Calls Tryz.prog 28 #[Ptr p, Ptr b] w fun e w' => e = .returned (.bool true) ∧ ∃ n rr a, w.heap.size ≤ n ∧ w.heap.size ≤ rr ∧ n ≠ rr ∧ Own [b, m] w w' ∧
    FEat w' n rr a x.s.g x.s.n false ∧ TS w0 w' p m h bb r b [((x.s.g, x.s.n), .pointer (some ⟨n, 0, none⟩))] asked { x with vg := x.s.g, node := .pointer (some ⟨n, 0, none⟩) } := by
  obtain ⟨h1, h2, h3, h4, h5, h6⟩ := H.ne
  have hp := lt_of_heap H.sp
  have hb := lt_of_heap H.en
  have hm := H.nm.lt
  have hr := lt_of_heap H.ra
  have hz := H.own.size
  refine (know_new p b m h bb r asked x w H.en H.sp H.nm hg hn h1 h2 h4).mono ?_
  rintro e w' ⟨rfl, n, rr, a, k1, k2, k3, k4, k5, k6, k7⟩
  refine ⟨rfl, n, rr, a, k1, k2, k3, k7, k5, k4, k7.heap H.sp (by simp; omega), k6, k7.heap H.ra (by simp; omega), H.ne, H.own.trans' k7 (fun z hz => ?_), H.bf⟩
  have := H.bf
  simp at hz
  rcases hz with rfl | rfl
  · exact .inr H.bf
  · exact .inl (by simp)
theorem ts_tell {n rr a : Nat} (H : TS w0 w p m h bb r b l asked x) (ht : x.text = ⟨#[]⟩) (hk : x.s.k = 3) (hn : x.node = .pointer (some ⟨n, 0, none⟩)) {g nm : ByteArray} (hF : FEat w n rr a g nm false) (hnr : n ≠ rr) (hbn : b < n) (hbr : b < rr) (hpn : p < n) (hmn : m < n) (hrn : r < n) (hn0 : w0.heap.size ≤ n) :
    Calls Tryz.prog 29 #[Ptr p, Ptr b] w fun e w' => e = .returned (.bool true) ∧ FEat w' n rr a g nm true ∧ TS w0 w' p m h bb r b l asked { x with code := 5 } ∧ Own [b, n] w w' :=
  (tell_fresh p b n rr a g nm false x w H.en ht hk hn hF hnr (by omega) (by omega)).mono fun e w' ⟨h1, h2, h3, h4⟩ => ⟨h1, h4, H.set h2 (by simp; omega) h3, h2⟩
theorem ts_remember (H : TS w0 w p m h bb r b l asked x) (h1 : x.code ≠ 1) : Calls Tryz.prog 30 #[Ptr p, Ptr b] w fun e w' => e = .returned (.bool true) ∧ w = w' := remember_off p b x w H.en h1
theorem ts_ask {n rr a : Nat} {g nm : ByteArray} {pe : Bool} (H : TS w0 w p m h bb r b l 0 x) (hF : FEat w n rr a g nm pe) (hbn : b < n) (hbr : b < rr) (hpn : p < n) (hpr : p < rr) (hrn : r < n) (hrr : r < rr) (hc : x.code = 5) (ha : x.at' = 5) (hsg : x.s.g.size ≤ 1048576) (hsn : x.s.n.size ≤ 1048576) :
    Calls Tryz.prog 31 #[Ptr p, Ptr b] w fun e w' => e = .returned (.bool false) ∧ FEat w' n rr a g nm pe ∧ EntAt w' b { x with ask := true } ∧ w'.heap[p]? = some (.cells #[.map (some m), Ptr h, Ptr bb, Ptr r, .int .i64 1] 30 (0, 0)) ∧ MapS keyEnc w' m l ∧ Own [p, m, r] w0 w' ∧ Own [b, p, r] w w' := by
  obtain ⟨h1, h2, h3, h4, h5, h6⟩ := H.ne
  have hR : Rate w r 10 [r] [] := ⟨by simp, by simp, ⟨by omega, by omega⟩, .slice none 0 0, [], ⟨H.ra, ⟨⟨rfl, .inl ⟨rfl, rfl⟩⟩, by simp, by simp⟩, by simp [Value.ownBlock], by simp⟩, List.Perm.refl _, by simp, by simp [Value.ownBlock], by simp⟩
  refine (ask_yes p b r m h bb 10 0 [r] [] x w H.en hR H.sp (by rw [hc]; decide) (by decide) (by decide) (Ne.symm h1) (by simpa using h5) (by simpa using h3) hsg hsn (by rw [ha]; rfl)).mono ?_
  rintro e w' ⟨rfl, k1, k2, k3⟩
  refine ⟨rfl, ⟨k1.heap hF.1 (by simp; omega), k1.heap hF.2 (by simp; omega)⟩, k2, k3, H.nm.own k1 (by simp; omega), H.own.trans' k1 (fun z hz => ?_), k1⟩
  simp at hz
  rcases hz with rfl | rfl | rfl
  · exact .inr H.bf
  · exact .inl (by simp)
  · exact .inl (by simp)
end
set_option maxRecDepth 100000 in
set_option maxHeartbeats 8000000 in
theorem take_first {p m h hm bb r : Nat} (w : World) (H : SN w p m h hm bb r) (hT : Tabs w) (hW : WordsAt w) (hC : MaxC w) :
    Calls Tryz.prog 4 #[Ptr p, .int .i64 5, .agg #[.string topicB, .string ⟨#[]⟩, .int .i64 0, .bool false]] w fun e w' => e = .returned (.agg #[.int .i64 5, .string gB, .string nB, .bool true]) ∧
      ∃ n rr a, FEat w' n rr a gB nB true ∧ w'.heap[p]? = some (.cells #[.map (some m), Ptr h, Ptr bb, Ptr r, .int .i64 1] 30 (0, 0)) ∧ MapS keyEnc w' m [((gB, nB), .pointer (some ⟨n, 0, none⟩))] ∧ Own [p, m, r] w w' := by
  have hpm : p ≠ m := fun e => by
    obtain ⟨es, clock, hb, _⟩ := H.nm
    rw [← e, H.sp] at hb
    cases hb
  have hpr : p ≠ r := fun e => by
    have := H.ra
    rw [← e, H.sp] at this
    simp at this
  have hmr : m ≠ r := fun e => by
    obtain ⟨es, clock, hb, _⟩ := H.nm
    rw [e, H.ra] at hb
    cases hb
  have hpl := lt_of_heap H.sp
  have hml := H.nm.lt
  have hrl := lt_of_heap H.ra
  have cO := Lib.hid fun W (h1 : Tabs W) (h2 : WordsAt W) (h3 : MaxC W) => of_any topicB W (by decide) h2 h1 h3
  have hA := (((Own.refl [] w).alloc (.cells #[.string topicB, .string ⟨#[]⟩, .int .i64 0, .bool false] 23)).alloc (.cells #[.int .i64 0, .string ⟨#[]⟩, .string ⟨#[]⟩, .bool false] 35))
  have cN := snone_no p m _ (H.own hA).c0.1
  replace cN := Lib.hid cN
  go_enter Tryz.func4, Tryz.ntmps4
  go_wp2_with (go_at_call 11; ((with_reducible refine cN.out.mono ?_); rintro e w2 ⟨rfl, rfl⟩))
  clear cN
  have hq0 : ((w.alloc (.cells #[.string topicB, .string ⟨#[]⟩, .int .i64 0, .bool false] 23)).alloc (.cells #[.int .i64 0, .string ⟨#[]⟩, .string ⟨#[]⟩, .bool false] 35)).heap[w.heap.size]? = some (.cells #[.string topicB, .string ⟨#[]⟩, .int .i64 0, .bool false] 23 (0, 0)) := by
    rw [Below.heap_alloc _ _ _ (by simp)]; exact heap_alloc_new _ _
  have hq1 : ((w.alloc (.cells #[.string topicB, .string ⟨#[]⟩, .int .i64 0, .bool false] 23)).alloc (.cells #[.int .i64 0, .string ⟨#[]⟩, .string ⟨#[]⟩, .bool false] 35)).heap[w.heap.size + 1]? = some (.cells #[.int .i64 0, .string ⟨#[]⟩, .string ⟨#[]⟩, .bool false] 35 (0, 0)) := heap_alloc2_new _ _ _
  generalize ((w.alloc (.cells #[.string topicB, .string ⟨#[]⟩, .int .i64 0, .bool false] 23)).alloc (.cells #[.int .i64 0, .string ⟨#[]⟩, .string ⟨#[]⟩, .bool false] 35)) = W0 at *
  obtain ⟨q0, hq0e⟩ : ∃ q, q = w.heap.size := ⟨_, rfl⟩
  obtain ⟨q1, hq1e⟩ : ∃ q, q = w.heap.size + 1 := ⟨_, rfl⟩
  rw [← hq1e] at hq1 ⊢
  rw [← hq0e] at hq0 ⊢
  have hq0l := lt_of_heap hq0
  have hq1l := lt_of_heap hq1
  have hq01 : q0 ≠ q1 := by omega
  have hq0w : w.heap.size ≤ q0 := by omega
  have hq1w : w.heap.size ≤ q1 := by omega
  clear hq0e hq1e
  obtain ⟨s0, s1, s2, s3⟩ := blkS hq0
  have cO1 := Lib.hid (cO.out W0.drew (hT.own (S := []) hA.drew (by simp)) (hW.own hA.drew) (hC.own hA.drew))
  rw [show spOf topicB = _ from spOf_topic] at cO1
  unfold SpotP at cO1
  have hSm : Hid (∀ W, Own [] W0.drew W → W.cell? ⟨q0, 0, none⟩ = some (.string topicB) ∧ W.cell? ⟨q0, 1, none⟩ = some (.string ⟨#[]⟩) ∧ W.cell? ⟨q0, 2, none⟩ = some (.int .i64 0) ∧ W.cell? ⟨q0, 3, none⟩ = some (.bool false)) := Lib.hid fun W ho =>
    blkS ((Own.refl [] W0).drew.trans ho |>.heap hq0 (by simp))
  have kW := hSm.out W0.drew (Own.refl _ _)
  go_region_held3 (fun W => W.cell? ⟨q0, 0, none⟩ = some (.string topicB) ∧ W.cell? ⟨q0, 1, none⟩ = some (.string ⟨#[]⟩) ∧ W.cell? ⟨q0, 2, none⟩ = some (.int .i64 0) ∧ W.cell? ⟨q0, 3, none⟩ = some (.bool false))
    (first | with_reducible exact kA | with_reducible exact kW | go_keep)
    ((first | (go_at_call 12; (with_reducible refine cO1.out.mono ?_); rintro e w3 ⟨rfl, hO3⟩; have kA := hSm.out _ hO3)))
  all_goals
    have hO3' : Own [] W0 w3 := (Own.refl [] W0).drew.trans hO3
    have hTS : TS w (w3.alloc (.cells #[.int .i64 5, .string topicB, .string ⟨#[]⟩, .int .i64 0, .bool false, .int .i64 3, .string gB, .string nB, .string ⟨#[]⟩, .pointer none, .int .i64 0, .string ⟨#[]⟩, .string ⟨#[]⟩, .bool false] 53)) p m h bb r w3.heap.size [] 0 ⟨5, topicB, ⟨#[]⟩, 0, false, ⟨3, gB, nB, ⟨#[]⟩⟩, .pointer none, 0, ⟨#[]⟩, ⟨#[]⟩, false⟩ := by
      have hw3 := hA.trans hO3'
      have hO4 := hw3.alloc (.cells #[.int .i64 5, .string topicB, .string ⟨#[]⟩, .int .i64 0, .bool false, .int .i64 3, .string gB, .string nB, .string ⟨#[]⟩, .pointer none, .int .i64 0, .string ⟨#[]⟩, .string ⟨#[]⟩, .bool false] 53)
      have hz := hw3.size
      exact ⟨heap_alloc_new _ _, hO4.heap H.sp (by simp), H.nm.own hO4 (by simp), hO4.heap H.ra (by simp), ⟨by omega, by omega, by omega, hpm, hpr, hmr⟩, hO4.nil, hz⟩
    have hV3 := (((Own.refl [] W0).drew.trans hO3).alloc (.cells #[.int .i64 5, .string topicB, .string ⟨#[]⟩, .int .i64 0, .bool false, .int .i64 3, .string gB, .string nB, .string ⟨#[]⟩, .pointer none, .int .i64 0, .string ⟨#[]⟩, .string ⟨#[]⟩, .bool false] 53)).heap hq1 (by simp)
    clear kA kW hSm cO1 hq0 hq1 s0 s1 s2 s3
    have hq1b : q1 < w3.heap.size := Nat.lt_of_lt_of_le hq1l hO3'.size
    generalize w3.alloc (.cells #[.int .i64 5, .string topicB, .string ⟨#[]⟩, .int .i64 0, .bool false, .int .i64 3, .string gB, .string nB, .string ⟨#[]⟩, .pointer none, .int .i64 0, .string ⟨#[]⟩, .string ⟨#[]⟩, .bool false] 53) = W4 at *
    generalize w3.heap.size = b at *
    replace hTS := Lib.hid hTS
    replace hV3 := Lib.hid hV3
    go_wp2_with go_in
    have hSt : (W4.alloc (.cells #[.func (.func 26) #[Ptr p] #[], .func (.func 27) #[Ptr p] #[], .func (.func 28) #[Ptr p] #[], .func (.func 29) #[Ptr p] #[], .func (.func 30) #[Ptr p] #[], .func (.func 31) #[Ptr p] #[]] 58)).heap[W4.heap.size]? = some (.cells #[.func (.func 26) #[Ptr p] #[], .func (.func 27) #[Ptr p] #[], .func (.func 28) #[Ptr p] #[], .func (.func 29) #[Ptr p] #[], .func (.func 30) #[Ptr p] #[], .func (.func 31) #[Ptr p] #[]] 58 (0, 0)) := heap_alloc_new _ _
    have hT5 := Lib.hid (hTS.out.nil' ((Own.refl [] W4).alloc (.cells #[.func (.func 26) #[Ptr p] #[], .func (.func 27) #[Ptr p] #[], .func (.func 28) #[Ptr p] #[], .func (.func 29) #[Ptr p] #[], .func (.func 30) #[Ptr p] #[], .func (.func 31) #[Ptr p] #[]] 58)))
    have hV5 := Lib.hid (((Own.refl [] W4).alloc (.cells #[.func (.func 26) #[Ptr p] #[], .func (.func 27) #[Ptr p] #[], .func (.func 28) #[Ptr p] #[], .func (.func 29) #[Ptr p] #[], .func (.func 30) #[Ptr p] #[], .func (.func 31) #[Ptr p] #[]] 58)).heap hV3.out (by simp))
    have hbst : b < W4.heap.size := lt_of_heap hTS.out.en
    have hqst : q1 < W4.heap.size := lt_of_heap hV3.out
    have hpst : p < W4.heap.size := lt_of_heap hTS.out.sp
    have hmst : m < W4.heap.size := hTS.out.nm.lt
    have hrst : r < W4.heap.size := lt_of_heap hTS.out.ra
    clear hTS hV3
    generalize (W4.alloc (.cells #[.func (.func 26) #[Ptr p] #[], .func (.func 27) #[Ptr p] #[], .func (.func 28) #[Ptr p] #[], .func (.func 29) #[Ptr p] #[], .func (.func 30) #[Ptr p] #[], .func (.func 31) #[Ptr p] #[]] 58)) = W5 at *
    generalize W4.heap.size = st at *
    refine wp_loop_rounds 6 ?_
    rw [rounds_succ]
    have c0 : W5.cell? ⟨st, 0, none⟩ = some (.func (.func 26) #[Ptr p] #[]) := cell_of_row _ st 0 _ _ _ hSt
    go_wp2_with fail
    refine (ts_pass (hT5.out.nil' ((Own.refl [] W5).alloc _)) rfl).mono ?_
    rintro e w6 ⟨rfl, rfl⟩
    have hO6 := (Own.refl [] W5).alloc (.cells #[.func (.func 26) #[Ptr p] #[]] 58)
    have hT6 := Lib.hid (hT5.out.nil' hO6)
    have hS6 := hO6.heap hSt (by simp)
    have hV6 := Lib.hid (hO6.heap hV5.out (by simp))
    clear c0 hSt hT5 hV5 hO6
    generalize W5.alloc (.cells #[.func (.func 26) #[Ptr p] #[]] 58) = W6 at *
    go_wp2_with fail
    rw [rounds_succ]
    have c1 : W6.cell? ⟨st, 1, none⟩ = some (.func (.func 27) #[Ptr p] #[]) := cell_of_row _ st 1 _ _ _ hS6
    go_wp2_with fail
    refine (ts_state (hT6.out.nil' ((Own.refl [] W6).alloc _)) rfl).mono ?_
    rintro e W7 ⟨rfl, hT7, hO7⟩
    have hO6 := ((Own.refl [] W6).alloc (.cells #[.func (.func 27) #[Ptr p] #[]] 58)).nil.trans hO7
    have hS7 := hO6.heap hS6 (by simp; omega)
    have hV7 := Lib.hid (hO6.heap hV6.out (by simp; omega))
    replace hT7 := Lib.hid hT7
    clear c1 hS6 hT6 hV6 hO6 hO7
    go_wp2_with fail
    rw [rounds_succ]
    have c2 : W7.cell? ⟨st, 2, none⟩ = some (.func (.func 28) #[Ptr p] #[]) := cell_of_row _ st 2 _ _ _ hS7
    go_wp2_with fail
    refine (ts_know (hT7.out.nil' ((Own.refl [] W7).alloc _)) gB_ne nB_ne).mono ?_
    rintro e W8 ⟨rfl, n, rr, a, hn8, hr8, hnr, hO8, hF8, hT8⟩
    have hO7 := ((Own.refl [] W7).alloc (.cells #[.func (.func 28) #[Ptr p] #[]] 58)).nil.trans hO8
    have hS8 := hO7.heap hS7 (by simp; omega)
    have hV8 := Lib.hid (hO7.heap hV7.out (by simp; omega))
    have hst7 := lt_of_heap hS7
    have hst8 : st < n ∧ st < rr := by simp at hn8 hr8; omega
    replace hT8 := Lib.hid hT8
    replace hF8 := Lib.hid hF8
    clear c2 hS7 hT7 hV7 hO7 hO8 hn8 hr8 hst7
    go_wp2_with fail
    rw [rounds_succ]
    have c3 : W8.cell? ⟨st, 3, none⟩ = some (.func (.func 29) #[Ptr p] #[]) := cell_of_row _ st 3 _ _ _ hS8
    have hw8 := hT8.out.own.size
    have hst0 : w.heap.size ≤ n := by have := hT8.out.bf; omega
    go_wp2_with fail
    refine (ts_tell (hT8.out.nil' ((Own.refl [] W8).alloc _)) rfl rfl rfl (hF8.out.own ((Own.refl [] W8).alloc _)) hnr (by omega) (by omega) (by omega) (by omega) (by omega) hst0).mono ?_
    rintro e W9 ⟨rfl, hF9, hT9, hO9⟩
    have hO8 := ((Own.refl [] W8).alloc (.cells #[.func (.func 29) #[Ptr p] #[]] 58)).nil.trans hO9
    have hS9 := hO8.heap hS8 (by simp; omega)
    have hV9 := Lib.hid (hO8.heap hV8.out (by simp; omega))
    replace hT9 := Lib.hid hT9
    replace hF9 := Lib.hid hF9
    clear c3 hS8 hT8 hV8 hO8 hO9 hF8 hw8
    go_wp2_with fail
    rw [rounds_succ]
    have c4 : W9.cell? ⟨st, 4, none⟩ = some (.func (.func 30) #[Ptr p] #[]) := cell_of_row _ st 4 _ _ _ hS9
    go_wp2_with fail
    refine (ts_remember (hT9.out.nil' ((Own.refl [] W9).alloc _)) (show (5 : Int) ≠ 1 by decide)).mono ?_
    rintro e w10 ⟨rfl, rfl⟩
    have hO10 := (Own.refl [] W9).alloc (.cells #[.func (.func 30) #[Ptr p] #[]] 58)
    have hT10 := Lib.hid (hT9.out.nil' hO10)
    have hS10 := hO10.heap hS9 (by simp)
    have hV10 := Lib.hid (hO10.heap hV9.out (by simp))
    have hF10 := Lib.hid (hF9.out.own hO10)
    clear c4 hS9 hT9 hV9 hO10 hF9
    generalize W9.alloc (.cells #[.func (.func 30) #[Ptr p] #[]] 58) = W10 at *
    go_wp2_with fail
    rw [rounds_succ]
    have c5 : W10.cell? ⟨st, 5, none⟩ = some (.func (.func 31) #[Ptr p] #[]) := cell_of_row _ st 5 _ _ _ hS10
    go_wp2_with fail
    refine (ts_ask (hT10.out.nil' ((Own.refl [] W10).alloc _)) (hF10.out.own ((Own.refl [] W10).alloc _)) (by omega) (by omega) (by omega) (by omega) (by omega) (by omega) rfl rfl (show gB.size ≤ 1048576 by decide) (show nB.size ≤ 1048576 by decide)).mono ?_
    rintro e W11 ⟨rfl, hF11, hE11, hp11, hM11, hO11, hO12⟩
    have hO10 := ((Own.refl [] W10).alloc (.cells #[.func (.func 31) #[Ptr p] #[]] 58)).nil.trans hO12
    have hV11 := hO10.heap hV10.out (by simp; omega)
    obtain ⟨e0, e1, e2, e3, e4, e5, e6, e7, e8, e9, e10, e11, e12, e13⟩ := blk14 hE11
    obtain ⟨v0, v1, v2, v3⟩ := blkS hV11
    obtain ⟨z0, z1, z2, z3, _⟩ := fzS hV11
    have hset := setS hV11 (.int .i64 5) (.string gB) (.string nB) (.bool true)
    have hOs : Own [q1] W11 ((((W11.setCell ⟨q1, 0, none⟩ (.int .i64 5)).setCell ⟨q1, 1, none⟩ (.string gB)).setCell ⟨q1, 2, none⟩ (.string nB)).setCell ⟨q1, 3, none⟩ (.bool true)) :=
      ((((Own.refl [q1] W11).setCell (.inl (by simp)) _).setCell (.inl (by simp)) _).setCell (.inl (by simp)) _).setCell (.inl (by simp)) _
    clear e0 e1 e2 e3 e4 e5 e6 e7 e8 e9 c5 hS10 hT10 hV10 hF10 hO10 hO12
    go_wp2_with fail
    generalize ((((W11.setCell ⟨q1, 0, none⟩ (.int .i64 5)).setCell ⟨q1, 1, none⟩ (.string gB)).setCell ⟨q1, 2, none⟩ (.string nB)).setCell ⟨q1, 3, none⟩ (.bool true)) = W12 at *
    obtain ⟨f0, f1, f2, f3⟩ := blkS hset
    refine bodyPost_ret (v := .agg #[.int .i64 5, .string gB, .string nB, .bool true]) (by simp [results, Tryz.results4, go_sem, f0, f1, f2, f3]; try rfl) rfl
      ⟨rfl, n, rr, a, ⟨hOs.heap hF11.1 (by simp; omega), hOs.heap hF11.2 (by simp; omega)⟩, hOs.heap hp11 (by simp; omega), hM11.own hOs (by simp; omega), hO11.trans' hOs (fun z hz => .inr (by simp at hz; omega))⟩
end Go.Proofs.YtecociaolohfmaaGreatDoor
