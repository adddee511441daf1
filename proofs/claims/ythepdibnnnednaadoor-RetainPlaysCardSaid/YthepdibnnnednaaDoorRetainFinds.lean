/- RetainFinds: what a filter finds is wanted by it, rising by topics, and all of that which stays. -/
import Derived.Test.YthepdibnnnednaaDoorRetainThose
namespace Go.Proofs.YthepdibnnnednaaDoor
open Go.RowKit Go.Sort Go.Lib Go.Shelf

theorem open_msgs2 {H : Type} {enc : TypeId × Value → H} {w : World} {fuel : Nat} {a0 : Option Addr} {len0 cap0 : Nat} {x : DataW H × List MemPlace} (h : DataW.trod enc Tryd.prog w 0 (fun _ => true) true fuel 22 (Value.cells (.slice a0 len0 cap0)).toList = some x)
    {ts : List TypeId} {ds : List (DataW H)} (_hsz : (DataW.weightsEach Tryd.prog ts ds).all (· ≤ reachBytes) = true) {j : Nat} (_ht : ts[j]? = some 22) (_hd : ds[j]? = some x.1) : ∃ ms, MsgRow w a0 len0 ms := open_msgs h
def GotPost (q : ByteArray → Bool) (l : Msgs) (w : World) (e : Ending) (w' : World) : Prop :=
  ∃ v r, e = .returned v ∧ Those q l r ∧ Sl 26 Ms.cells 4 w.heap.size w' v r ∧ Own [] w w'
set_option maxRecDepth 100000 in
theorem mall_any (b m : Nat) (l : Msgs) (w : World) (h : Store w b m l) (hg : GoodSt l) (hT : Tabs w) :
    Calls Tryd.prog 18 #[.pointer (some ⟨b, 0, none⟩)] w (GotPost lvName l w) := by
  have C := Lib.hid (those_all b m l w h (by have := hg.2; omega) hT)
  have hn := h.nodup
  clear h hT
  go_enter Tryd.func18, Tryd.ntmps18
  go_wp2_with (go_at_call 24; refine C.out.mono ?_; rintro e w2 ⟨v, r, rfl, h1, h2, h3, h4⟩; have F := Lib.hid (And.intro (those_of hg.1 hn h1 h2) (And.intro h3 h4)); clear h1 h2 h3 h4)
  go_ret
  exact ⟨v, r, rfl, F.out⟩
set_option maxRecDepth 100000 in
theorem mfind_any (b m : Nat) (l : Msgs) (f : ByteArray) (w : World) (h : Store w b m l) (hg : GoodSt l) (hT : Tabs w) :
    Calls Tryd.prog 16 #[.pointer (some ⟨b, 0, none⟩), .string f] w (GotPost (mMatch f) l w) := by
  have hA : Own [] w (w.alloc (.cells #[.string f] 9)) := (Own.refl _ _).alloc _
  have hc : (w.alloc (.cells #[.string f] 9)).cell? ⟨w.heap.size, 0, none⟩ = some (.string f) := cell_of_row _ _ 0 _ _ _ (heap_alloc_new w (.cells #[.string f] 9))
  have C := Lib.hid (those_find b m l f w.heap.size (w.alloc (.cells #[.string f] 9)) (h.own hA (by simp) (by simp)) (by have := hg.2; omega) (hT.own hA (by simp)) hc)
  have hn := h.nodup
  replace hA := Lib.hid hA
  clear h hT hc
  go_enter Tryd.func16, Tryd.ntmps16
  go_wp2_with (go_at_call 24; refine C.out.mono ?_; rintro e w2 ⟨v, r, rfl, h1, h2, h3, h4⟩; have F := Lib.hid (And.intro (those_of hg.1 hn h1 h2) (And.intro (show Sl 26 Ms.cells 4 w.heap.size w2 v r from h3.mono (by simp)) (hA.out.trans h4))); clear h1 h2 h3 h4)
  go_ret
  exact ⟨v, r, rfl, F.out⟩
set_option maxRecDepth 100000 in
set_option maxHeartbeats 4000000 in
theorem msame_any (A : List Ms) (va vb : Value) (w : World) (hA : A.length ≤ 1000) (ha : Reads Ms.cells w va A) (hb : Reads Ms.cells w vb A) :
    Calls Tryd.prog 15 #[va, vb] w fun e w' => e = .returned (.bool true) ∧ Own [] w w' := by
  obtain ⟨aa, ca, rfl⟩ := ha.form
  obtain ⟨ab, cb, rfl⟩ := hb.form
  replace ha := Lib.hid ha
  replace hb := Lib.hid hb
  obtain ⟨n, hn⟩ : ∃ n, A.length = n := ⟨_, rfl⟩
  rw [hn]
  replace hn := Lib.hid hn
  obtain ⟨wo, hwo⟩ : ∃ wo : World, wo = w := ⟨_, rfl⟩
  rw [← hwo] at ha hb ⊢
  clear hwo
  go_enter Tryd.func15, Tryd.ntmps15
  go_wp2_with fail
  go_loopg [5] (n + 1) (fun g s5 wr => ∃ i : Nat, s5 = .int .i64 i ∧ g = n + 1 - i ∧ i ≤ n ∧ Own [] wo wr)
  case atStart => exact ⟨0, rfl, rfl, Nat.zero_le _, Own.refl _ _⟩
  case round =>
    obtain ⟨i, rfl, hg, hi, hO⟩ := hrel
    by_cases hlt : i < n
    · have hlA : i < A.length := by have := hn.out; omega
      obtain ⟨x, hx⟩ : ∃ x, A[i]? = some x := ⟨_, List.getElem?_eq_getElem hlA⟩
      have hra := ha.out.nil' hO
      have hrb := hb.out.nil' hO
      rw [hn.out] at hra hrb
      obtain ⟨b0, o0, rfl, hca⟩ := hra.at_ msCells_len (by omega)
      obtain ⟨b1, o1, rfl, hcb⟩ := hrb.at_ msCells_len (by omega)
      obtain ⟨x1, x2, x3, x4⟩ := x
      have d0 : wr.cell? ⟨b0, o0 + i * 4, none⟩ = some (.string x1) := by simpa using hca i _ 0 _ hx rfl
      have d1 : wr.cell? ⟨b0, o0 + i * 4 + 1, none⟩ = some (.string x2) := by rw [Nat.add_assoc]; exact hca i _ 1 _ hx rfl
      have d2 : wr.cell? ⟨b0, o0 + i * 4 + 2, none⟩ = some (.int .i64 x3) := by rw [Nat.add_assoc]; exact hca i _ 2 _ hx rfl
      have d3 : wr.cell? ⟨b0, o0 + i * 4 + 3, none⟩ = some (.bool x4) := by rw [Nat.add_assoc]; exact hca i _ 3 _ hx rfl
      have e0 : wr.cell? ⟨b1, o1 + i * 4, none⟩ = some (.string x1) := by simpa using hcb i _ 0 _ hx rfl
      have e1 : wr.cell? ⟨b1, o1 + i * 4 + 1, none⟩ = some (.string x2) := by rw [Nat.add_assoc]; exact hcb i _ 1 _ hx rfl
      have e2 : wr.cell? ⟨b1, o1 + i * 4 + 2, none⟩ = some (.int .i64 x3) := by rw [Nat.add_assoc]; exact hcb i _ 2 _ hx rfl
      have e3 : wr.cell? ⟨b1, o1 + i * 4 + 3, none⟩ = some (.bool x4) := by rw [Nat.add_assoc]; exact hcb i _ 3 _ hx rfl
      have hi1 : (i : Int) < n := by omega
      have hi0 : (0 : Int) ≤ i := by omega
      have hw1 : IntKind.i64.wrap ((i : Int) + 1) = (i : Int) + 1 := IntWalk.i64_in _ (by have := hn.out; omega)
      replace hO := Lib.hid hO
      replace hg := Lib.hid hg
      clear hca hcb hra hrb hx hlA
      go_wp2_with fail
      go_region
      all_goals
        go_wp2_with fail
        go_roundg (n + 1 - (i + 1))
        case measure => have := hg.out; omega
        case rel => exact ⟨i + 1, by simp, rfl, by omega, hO.out.drew⟩
    · have hi1 : ¬ (i : Int) < n := by omega
      replace hO := Lib.hid hO
      replace hg := Lib.hid hg
      go_wp2_with fail
      go_ret
      exact ⟨rfl, hO.out⟩
theorem take_filter {α : Type} (q : α → Bool) {A : List α} {i : Nat} {x : α} (h : A[i]? = some x) : (A.take (i + 1)).filter q = (A.take i).filter q ++ if q x then [x] else [] := by
  obtain ⟨hi, hx⟩ := List.getElem?_eq_some_iff.1 h
  rw [List.take_succ_eq_append_getElem hi, List.filter_append, hx]
  congr 1
  by_cases hq : q x <;> simp [hq]
set_option maxRecDepth 100000 in
set_option maxHeartbeats 4000000 in
theorem finds_walk (a0 : Option Addr) (n0 c0 : Nat) (ms : Nat → Ms) (f : ByteArray) (w : World) (h0 : MsgRow w a0 n0 ms) (_z : f.size ≤ 140737488351232) (hT : Tabs w) :
    Calls Tryd.prog 6 #[.slice a0 n0 c0, .string f] w fun e w' => e = .returned (.bool true) ∧ Below w.heap.size w w' := by
  have hl0 : n0 ≤ 9223372036854775807 := by have := h0.1; simp only [maxLen] at this; omega
  replace h0 := Lib.hid h0
  replace hT := Lib.hid hT
  go_enter Tryd.func6, Tryd.ntmps6
  go_wp2_with fail
  refine (new_any _).mono ?_
  rintro e w1 ⟨b, m, rfl, hS, hb, hm, hO⟩
  have hB1 : Below w.heap.size w w1 := hO.below (Nat.le_refl _) (by simp)
  replace hB1 := Lib.hid hB1
  replace hS := Lib.hid hS
  clear hO
  go_wp2_with fail
  go_loopg [6] n0 (fun g s6 wr => ∃ (k : Nat) (l : Msgs), k ≤ n0 ∧ g = n0 - k ∧ s6 = .int .i64 k ∧ k ≤ 60 ∧ Aside (Store wr b m l ∧ GoodSt l ∧ Below w.heap.size w wr))
  case atStart => exact ⟨0, [], by omega, by omega, rfl, by omega, hS.out, goodSt_nil, hB1.out⟩
  case round =>
    obtain ⟨k, l, hk, rfl, rfl, hk6, hA⟩ := hrel
    obtain ⟨hS, hG, hB⟩ := hA
    by_cases hlt : k < n0 ∧ k < 60
    · obtain ⟨b1, o1, rfl, hb1, hx⟩ := (h0.out.below hB).2 (by omega)
      have hxk := hx k hlt.1
      have hTr := hT.out.below hB
      have hK := keep_any b m l (ms k) wr hS hTr
      have hko := keep_good (ms k) hG
      unfold KeepPost at hK
      generalize rKeep l (ms k) = r at hK hko
      generalize ms k = x at hxk hK hko
      obtain ⟨x1, x2, x3, x4⟩ := x
      obtain ⟨⟨was, code⟩, l'⟩ := r
      simp only at hK hko
      have d0 : wr.cell? ⟨b1, o1 + k * 4, none⟩ = some (.string x1) := hxk 0 _ rfl
      have d1 : wr.cell? ⟨b1, o1 + k * 4 + 1, none⟩ = some (.string x2) := hxk 1 _ rfl
      have d2 : wr.cell? ⟨b1, o1 + k * 4 + 2, none⟩ = some (.int .i64 x3) := hxk 2 _ rfl
      have d3 : wr.cell? ⟨b1, o1 + k * 4 + 3, none⟩ = some (.bool x4) := hxk 3 _ rfl
      have k1 := hlt.1
      have k2 : (k : Int) < 60 := by omega
      simp only [Ms.val] at hK
      replace hK := Lib.hid hK
      replace hko := Lib.hid hko
      replace hB := Lib.hid hB
      clear hx hxk hTr hS hG
      go_wp2_with (go_at_call 9; refine hK.out.mono ?_; rintro e w2 ⟨rfl, hS2, hO2⟩; have F := Lib.hid (And.intro hS2 (And.intro hko.out (hB.out.trans (hO2.below hB.out.size (by simp; omega))))); clear hS2 hO2)
      go_roundg (n0 - (k + 1))
      case measure => omega
      case rel => exact ⟨k + 1, l', by omega, by omega, by go_num, by omega, F.out⟩
    · have hex : (¬ k < n0) ∨ (k < n0 ∧ ¬ ((k : Int) < 60)) := by
        by_cases h1 : k < n0
        · exact .inr ⟨h1, fun h2 => hlt ⟨h1, by omega⟩⟩
        · exact .inl h1
      have hAll := Lib.hid (mall_any b m l wr hS hG (hT.out.below hB))
      have hL := hG.2
      replace hS := Lib.hid hS
      replace hG := Lib.hid hG
      replace hB := Lib.hid hB
      clear hlt
      rcases hex with h1 | ⟨h1, h2⟩
      all_goals
        go_wp2_with (go_at_call 18; refine hAll.out.mono ?_; rintro e w2 ⟨va, A, rfl, hA, hSl, hO2⟩; have hS2 := Lib.hid (hS.out.own hO2 (by simp) (by simp)); have hRd := hSl.reads msCells_len; obtain ⟨aa, ca, rfl⟩ := hSl.sl; have hB2 := Lib.hid (hB.out.trans (hO2.below hB.out.size (by simp))); replace hA := Lib.hid hA; replace hRd := Lib.hid hRd; clear hSl hO2)
        have hAl := those_len hG.out.1 hA.out
        have hA32 : A.length ≤ 32 := by omega
        obtain ⟨n, hn⟩ : ∃ n, A.length = n := ⟨_, rfl⟩
        rw [hn] at hA32 hAl ⊢
        have hln : l.length = n := hAl.symm
        replace hn := Lib.hid hn
        replace hAl := Lib.hid hAl
        go_loopg [8, 9] (n + 1) (fun g s8 s9 wq => ∃ (i : Nat) (T : List Ms), s9 = .int .i64 i ∧ g = n + 1 - i ∧ i ≤ n ∧ Own [] w2 wq ∧ Sl 26 Ms.cells 4 w2.heap.size wq s8 T ∧ Aside (T = (A.take i).filter fun x => mMatch f x.top))
        case atStart => exact ⟨0, [], rfl, rfl, Nat.zero_le _, Own.refl _ _, Sl.nil _ _ _, (rfl : [] = List.filter _ (List.take 0 A))⟩
        case round =>
          obtain ⟨i, T, rfl, hg, hi, hO, hSl, hT3⟩ := hrel
          replace hT3 : T = (A.take i).filter fun x => mMatch f x.top := hT3
          by_cases hlt : i < n
          · have hlA : i < A.length := by have := hn.out; omega
            obtain ⟨x, hx⟩ : ∃ x, A[i]? = some x := ⟨_, List.getElem?_eq_getElem hlA⟩
            have hxm := those_mem hG.out.1 hA.out (List.mem_of_getElem? hx)
            have hRr := hRd.out.nil' hO
            rw [hn.out] at hRr
            obtain ⟨b0, o0, rfl, hca⟩ := hRr.at_ msCells_len (by omega)
            have htf := take_filter (fun x => mMatch f x.top) hx
            rw [← hT3] at htf
            have hprev : 0 < i → ∃ y : Ms, wr.cell? ⟨b0, o0 + (i - 1) * 4, none⟩ = some (.string y.top) ∧ Op.bytesLess y.top.toList x.top.toList = true := fun h0 => by
              have hlA2 : i - 1 < A.length := by omega
              refine ⟨A[i - 1], by simpa using hca (i - 1) _ 0 _ (List.getElem?_eq_getElem hlA2) rfl, ?_⟩
              have := List.pairwise_iff_getElem.1 hA.out.2 (i - 1) i hlA2 hlA (by omega)
              rw [List.getElem?_eq_getElem hlA] at hx
              rw [← Option.some.inj hx]
              exact this
            have hTl : T.length ≤ 32 := by
              rw [hT3]
              have h1 := List.length_filter_le (fun x : Ms => mMatch f x.top) (A.take i)
              simp at h1 ⊢
              omega
            obtain ⟨x1, x2, x3, x4⟩ := x
            simp only at hxm hprev htf
            obtain ⟨rfl, hte⟩ := hxm
            have d0 : wr.cell? ⟨b0, o0 + i * 4, none⟩ = some (.string x1) := by simpa using hca i _ 0 _ hx rfl
            have d1 : wr.cell? ⟨b0, o0 + i * 4 + 1, none⟩ = some (.string x2) := by rw [Nat.add_assoc]; exact hca i _ 1 _ hx rfl
            have d2 : wr.cell? ⟨b0, o0 + i * 4 + 2, none⟩ = some (.int .i64 x3) := by rw [Nat.add_assoc]; exact hca i _ 2 _ hx rfl
            have d3 : wr.cell? ⟨b0, o0 + i * 4 + 3, none⟩ = some (.bool true) := by rw [Nat.add_assoc]; exact hca i _ 3 _ hx rfl
            have hi1 : (i : Int) < n := by omega
            have hi0 : (0 : Int) ≤ i := by omega
            have hw1 : IntKind.i64.wrap ((i : Int) + 1) = (i : Int) + 1 := IntWalk.i64_in _ (by omega)
            have M := fun W (ho : Own [] w2 W) => match_any f x1 W (hT.out.below (hB2.out.trans (ho.below hB2.out.size (by simp))))
            replace M := Lib.hid M
            replace hO := Lib.hid hO
            replace hg := Lib.hid hg
            replace hT3 := Lib.hid hT3
            have hRd2 := hRd
            clear hca hRr hx hlA
            by_cases hz : 0 < i
            · obtain ⟨y, p0, p1⟩ := hprev hz
              generalize y.top = y1 at p0 p1
              have p2 : Op.bytesLess x1.toList y1.toList = false := sless_asymm (x := y1) (y := x1) p1
              have p3 : (x1.toList == y1.toList) = false := by
                cases hc : (x1.toList == y1.toList)
                · rfl
                · have e := toList_inj (by simpa using hc : x1.toList = y1.toList)
                  subst e
                  exact absurd p1 (by rw [show Op.bytesLess x1.toList x1.toList = false from sless_irrefl x1]; simp)
              clear p1
              have hz1 : (0 : Int) < i := by omega
              obtain ⟨j, hj⟩ : ∃ j : Nat, i - 1 = j := ⟨_, rfl⟩
              rw [hj] at p0
              have hw2 : IntKind.i64.wrap ((i : Int) - 1) = (j : Int) := by rw [IntWalk.i64_in _ (by omega)]; omega
              have hz2 : (0 : Int) ≤ j := by omega
              have hz3 : (j : Int) < n := by omega
              replace hj := Lib.hid hj
              clear hprev y
              go_wp2_with fail
              go_quiet (fail)
              have hOq := hO.out.drewN nq
              have hMq := M.out (wr.drewN nq) hOq
              have hSq := hSl.nil' ((Own.refl [] wr).drewN nq)
              cases hmm : mMatch f x1
              · rw [hmm] at hMq
                simp only [hmm, Bool.false_eq_true, if_false, List.append_nil] at htf
                have hT4 : T = (A.take (i + 1)).filter fun x => mMatch f x.top := htf.symm
                replace hMq := Lib.hid hMq
                replace hT4 := Lib.hid hT4
                replace hSq := Lib.hid hSq
                replace hOq := Lib.hid hOq
                clear hmm htf hSl
                go_wp2_with (go_at_call 19; refine hMq.out.mono ?_; rintro e w5 ⟨rfl, hO5⟩; replace hO5 := Lib.hid hO5)
                go_roundg (n + 1 - (i + 1))
                case measure => have := hg.out; omega
                case rel => exact ⟨i + 1, T, by simp, rfl, by omega, hOq.out.trans hO5.out, hSq.out.nil' hO5.out, hT4.out⟩
              · rw [hmm] at hMq
                simp only [hmm, if_true] at htf
                obtain ⟨T2, hT2⟩ : ∃ T2, T ++ [(⟨x1, x2, x3, true⟩ : Ms)] = T2 := ⟨_, rfl⟩
                rw [hT2] at htf
                have hT4 : T2 = (A.take (i + 1)).filter fun x => mMatch f x.top := htf.symm
                have dl := block_lt_of_cell d0
                replace hT2 := Lib.hid hT2
                replace hMq := Lib.hid hMq
                replace hT4 := Lib.hid hT4
                replace hSq := Lib.hid hSq
                replace hOq := Lib.hid hOq
                obtain ⟨sa, sc, hsv⟩ := hSl.sl
                subst hsv
                clear hmm htf hSl
                go_wp2_with (first
                  | (go_at_call 19; refine hMq.out.mono ?_; rintro e w5 ⟨rfl, hO5⟩; have hO5r := ((Own.refl [] wr).drewN nq).trans hO5; have e0 := (hO5r.cell (p := ⟨b0, o0 + i * 4, none⟩) dl (by simp)).trans d0; have e1 := (hO5r.cell (p := ⟨b0, o0 + i * 4 + 1, none⟩) dl (by simp)).trans d1; have e2 := (hO5r.cell (p := ⟨b0, o0 + i * 4 + 2, none⟩) dl (by simp)).trans d2; have e3 := (hO5r.cell (p := ⟨b0, o0 + i * 4 + 3, none⟩) dl (by simp)).trans d3; have hS5 := (hSq.out.nil' hO5).nil' ((Own.refl [] w5).alloc (.cells #[.string x1, .string x2, .int .i64 x3, .bool true] 26)); have hO6 := (hOq.out.trans hO5).alloc (.cells #[.string x1, .string x2, .int .i64 x3, .bool true] 26); have hRb := Reads.new (enc := Ms.cells) (T := 26) w5 ⟨x1, x2, x3, true⟩ 1; replace hRb := Lib.hid hRb; replace hS5 := Lib.hid hS5; replace hO6 := Lib.hid hO6; clear hO5 hO5r)
                  | (at_builtin; refine wpList_append_new2 rfl (.tmp 74) (.tmp 79) rfl mElem hO6.out rfl hS5.out rfl hRb.out (by simp only [List.length_singleton]; omega) (by unfold maxLen; simp only [List.length_singleton]; omega) ?_; intro va wa hSa hOa _ hg2 hg3; rw [hT2.out] at hSa; clear hg2 hg3; obtain ⟨aa, ca, rfl⟩ := hSa.sl; replace hOa := Lib.hid hOa; replace hSa := Lib.hid hSa))
                go_roundg (n + 1 - (i + 1))
                case measure => have := hg.out; omega
                case rel => exact ⟨i + 1, T2, by simp, rfl, by omega, hOa.out, hSa.out, hT4.out⟩
            · have hzz : ¬ (0 : Int) < i := by omega
              clear hprev
              go_wp2_with fail
              go_quiet (fail)
              have hOq := hO.out.drewN nq
              have hMq := M.out (wr.drewN nq) hOq
              have hSq := hSl.nil' ((Own.refl [] wr).drewN nq)
              cases hmm : mMatch f x1
              · rw [hmm] at hMq
                simp only [hmm, Bool.false_eq_true, if_false, List.append_nil] at htf
                have hT4 : T = (A.take (i + 1)).filter fun x => mMatch f x.top := htf.symm
                replace hMq := Lib.hid hMq
                replace hT4 := Lib.hid hT4
                replace hSq := Lib.hid hSq
                replace hOq := Lib.hid hOq
                clear hmm htf hSl
                go_wp2_with (go_at_call 19; refine hMq.out.mono ?_; rintro e w5 ⟨rfl, hO5⟩; replace hO5 := Lib.hid hO5)
                go_roundg (n + 1 - (i + 1))
                case measure => have := hg.out; omega
                case rel => exact ⟨i + 1, T, by simp, rfl, by omega, hOq.out.trans hO5.out, hSq.out.nil' hO5.out, hT4.out⟩
              · rw [hmm] at hMq
                simp only [hmm, if_true] at htf
                obtain ⟨T2, hT2⟩ : ∃ T2, T ++ [(⟨x1, x2, x3, true⟩ : Ms)] = T2 := ⟨_, rfl⟩
                rw [hT2] at htf
                have hT4 : T2 = (A.take (i + 1)).filter fun x => mMatch f x.top := htf.symm
                have dl := block_lt_of_cell d0
                replace hT2 := Lib.hid hT2
                replace hMq := Lib.hid hMq
                replace hT4 := Lib.hid hT4
                replace hSq := Lib.hid hSq
                replace hOq := Lib.hid hOq
                obtain ⟨sa, sc, hsv⟩ := hSl.sl
                subst hsv
                clear hmm htf hSl
                go_wp2_with (first
                  | (go_at_call 19; refine hMq.out.mono ?_; rintro e w5 ⟨rfl, hO5⟩; have hO5r := ((Own.refl [] wr).drewN nq).trans hO5; have e0 := (hO5r.cell (p := ⟨b0, o0 + i * 4, none⟩) dl (by simp)).trans d0; have e1 := (hO5r.cell (p := ⟨b0, o0 + i * 4 + 1, none⟩) dl (by simp)).trans d1; have e2 := (hO5r.cell (p := ⟨b0, o0 + i * 4 + 2, none⟩) dl (by simp)).trans d2; have e3 := (hO5r.cell (p := ⟨b0, o0 + i * 4 + 3, none⟩) dl (by simp)).trans d3; have hS5 := (hSq.out.nil' hO5).nil' ((Own.refl [] w5).alloc (.cells #[.string x1, .string x2, .int .i64 x3, .bool true] 26)); have hO6 := (hOq.out.trans hO5).alloc (.cells #[.string x1, .string x2, .int .i64 x3, .bool true] 26); have hRb := Reads.new (enc := Ms.cells) (T := 26) w5 ⟨x1, x2, x3, true⟩ 1; replace hRb := Lib.hid hRb; replace hS5 := Lib.hid hS5; replace hO6 := Lib.hid hO6; clear hO5 hO5r)
                  | (at_builtin; refine wpList_append_new2 rfl (.tmp 74) (.tmp 79) rfl mElem hO6.out rfl hS5.out rfl hRb.out (by simp only [List.length_singleton]; omega) (by unfold maxLen; simp only [List.length_singleton]; omega) ?_; intro va wa hSa hOa _ hg2 hg3; rw [hT2.out] at hSa; clear hg2 hg3; obtain ⟨aa, ca, rfl⟩ := hSa.sl; replace hOa := Lib.hid hOa; replace hSa := Lib.hid hSa))
                go_roundg (n + 1 - (i + 1))
                case measure => have := hg.out; omega
                case rel => exact ⟨i + 1, T2, by simp, rfl, by omega, hOa.out, hSa.out, hT4.out⟩
          · obtain rfl : i = n := by omega
            rw [List.take_of_length_le (by have := hn.out; omega)] at hT3
            have hSr := hS2.out.own hO (by simp) (by simp)
            have hBr := hB2.out.trans (hO.below hB2.out.size (by simp))
            have hTr := hT.out.below hBr
            have hF := Lib.hid (mfind_any b m l f wr hSr hG.out hTr)
            have hTl : T.length ≤ 1000 := by
              rw [hT3]
              have h1 := List.length_filter_le (fun x : Ms => mMatch f x.top) A
              have := hn.out
              omega
            have hTR := hSl.reads msCells_len
            have hi1 : ¬ (i : Int) < i := by omega
            have h32 : (i : Int) ≤ 32 := by omega
            obtain ⟨sa, sc, hsv⟩ := hSl.sl
            subst hsv
            replace hSr := Lib.hid hSr
            replace hBr := Lib.hid hBr
            replace hTr := Lib.hid hTr
            replace hTR := Lib.hid hTR
            replace hT3 := Lib.hid hT3
            replace hg := Lib.hid hg
            have hln2 := Lib.hid hln
            clear hSl hO hln
            go_wp2_with (first
              | (go_at_call 16; go_loud (refine hF.out.mono ?_); rintro e w5 ⟨vf, r, rfl, hTh, hSf, hO5⟩; go_loud (have hrT : r = T := by (rw [hT3.out]; exact those_wanted hG.out.1 hA.out hTh)); go_loud (have hSame := msame_any T vf (.slice sa T.length sc) w5 hTl (by rw [← hrT]; exact hSf.reads msCells_len) (hTR.out.nil' hO5)); have hS5 := hSr.out.own hO5 (by simp) (by simp); replace hSame := Lib.hid hSame; replace hS5 := Lib.hid hS5; replace hO5 := Lib.hid hO5; clear hTh hSf hrT)
              | (go_at_call 15; refine hSame.out.mono ?_; rintro e w6 ⟨rfl, hO6⟩; have hLen := len_any b m l w6 (hS5.out.own hO6 (by simp) (by simp)); rw [hln2.out] at hLen; replace hLen := Lib.hid hLen; replace hO6 := Lib.hid (hO5.out.trans hO6))
              | (go_at_call 12; refine hLen.out.mono ?_; rintro e w7 ⟨rfl, rfl⟩; have hB7 := hBr.out.trans (hO6.out.below hBr.out.size (by simp)); have hAw := awake_any w6 (hT.out.below hB7); replace hAw := Lib.hid hAw; replace hB7 := Lib.hid hB7)
              | (go_at_call 11; refine hAw.out.mono ?_; rintro e w8 ⟨rfl, hO8⟩; replace hO8 := Lib.hid (hB7.out.trans (hO8.below hB7.out.size (by simp)))))
            go_ret
            exact ⟨rfl, hO8.out⟩
end Go.Proofs.YthepdibnnnednaaDoor
