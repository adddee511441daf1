/- container/heap over marks. -/
import Derived.Test.YtecociaolohfmaaGreatDoorRateHeap
namespace Go.Proofs.YtecociaolohfmaaGreatDoor
open Go.RowKit
theorem m_push (n : Nat) (a : Addr) (w : World) : (method (n + 1) 200 (.pointer (some a)) "Push").run Tryz.prog w = .ok (287, .pointer (some a)) w := by kernel_rfl
theorem m_pop (n : Nat) (a : Addr) (w : World) : (method (n + 1) 200 (.pointer (some a)) "Pop").run Tryz.prog w = .ok (286, .pointer (some a)) w := by kernel_rfl
theorem m_len0 (n : Nat) (a : Addr) (w : World) : (method (n + 1) 200 (.pointer (some a)) "Len").run Tryz.prog w = (Sem.load .plain a fun v => Sem.pure (283, v)).run Tryz.prog w := by kernel_rfl
theorem m_len (n : Nat) (a : Addr) (v : Value) (w : World) (h : w.cell? a = some v) : (method (n + 1) 200 (.pointer (some a)) "Len").run Tryz.prog w = .ok (283, v) w := by
  rw [m_len0]; simp [Sem.run, h]
theorem m_less0 (n : Nat) (a : Addr) (w : World) : (method (n + 1) 200 (.pointer (some a)) "Less").run Tryz.prog w = (Sem.load .plain a fun v => Sem.pure (284, v)).run Tryz.prog w := by kernel_rfl
theorem m_less (n : Nat) (a : Addr) (v : Value) (w : World) (h : w.cell? a = some v) : (method (n + 1) 200 (.pointer (some a)) "Less").run Tryz.prog w = .ok (284, v) w := by
  rw [m_less0]; simp [Sem.run, h]
theorem m_swap0 (n : Nat) (a : Addr) (w : World) : (method (n + 1) 200 (.pointer (some a)) "Swap").run Tryz.prog w = (Sem.load .plain a fun v => Sem.pure (285, v)).run Tryz.prog w := by kernel_rfl
theorem m_swap (n : Nat) (a : Addr) (v : Value) (w : World) (h : w.cell? a = some v) : (method (n + 1) 200 (.pointer (some a)) "Swap").run Tryz.prog w = .ok (285, v) w := by
  rw [m_swap0]; simp [Sem.run, h]
/-- The same marks; from place n on in the same order. -/
def SameFrom (n : Nat) (ms ms' : List Mk) : Prop := ms'.Perm ms ∧ ∀ k, n ≤ k → ms'[k]? = ms[k]?
theorem SameFrom.refl (n : Nat) (ms : List Mk) : SameFrom n ms ms := ⟨List.Perm.refl _, fun _ _ => rfl⟩
theorem SameFrom.trans {n : Nat} {a b c : List Mk} (h : SameFrom n a b) (k : SameFrom n b c) : SameFrom n a c := ⟨k.1.trans h.1, fun i hi => (k.2 i hi).trans (h.2 i hi)⟩
theorem SameFrom.mono {n n' : Nat} {a b : List Mk} (h : SameFrom n a b) (hn : n ≤ n') : SameFrom n' a b := ⟨h.1, fun i hi => h.2 i (by omega)⟩
theorem SameFrom.len {n : Nat} {a b : List Mk} (h : SameFrom n a b) : b.length = a.length := h.1.length_eq
theorem swp_perm (ms : List Mk) (i j : Nat) (hi : i < ms.length) (hj : j < ms.length) : (swp ms i j).Perm ms := by
  unfold swp
  simp only [List.getD, List.getElem?_eq_getElem hi, List.getElem?_eq_getElem hj, Option.getD_some]
  exact List.set_set_perm hi hj
theorem SameFrom.swp {n : Nat} (ms : List Mk) (i j : Nat) (hi : i < n) (hj : j < n) (hn : n ≤ ms.length) : SameFrom n ms (swp ms i j) := by
  refine ⟨swp_perm ms i j (by omega) (by omega), fun k hk => ?_⟩
  unfold Proofs.YtecociaolohfmaaGreatDoor.swp
  rw [List.getElem?_set_ne (by omega), List.getElem?_set_ne (by omega)]

theorem RateAt.withMarks {w w' : World} {rb : Nat} {gap : Int} {v : Value} {ms ms' : List Mk} (h : RateAt w rb gap v ms) (hm : Marks w' v ms') (hp : ms'.Perm ms) (ho : Own v.ownBlock.toList w w') : RateAt w' rb gap v ms' :=
  ⟨ho.heap h.row (by simpa using h.ne), hm, h.ne, fun x hx => h.apart x (hp.mem_iff.1 hx)⟩
theorem RateAt.own {S : List Nat} {w w' : World} {rb : Nat} {gap : Int} {v : Value} {ms : List Mk} (h : RateAt w rb gap v ms) (ho : Own S w w') (h1 : rb ∉ S) (h2 : ∀ g, v.ownBlock = some g → g ∉ S) (h3 : ∀ x ∈ ms, x.blk ∉ S) : RateAt w' rb gap v ms := by
  refine ⟨ho.heap h.row h1, ⟨?_, fun x hx => ⟨ho.heap (h.marks.marks x hx).1 (h3 x hx), (h.marks.marks x hx).2⟩, h.marks.apart⟩, h.ne, h.apart⟩
  obtain ⟨q1, q2 | ⟨g, cap, cur, q3, q4, q5, q6⟩⟩ := h.marks.own
  · exact ⟨q1, .inl q2⟩
  · exact ⟨q1, .inr ⟨g, cap, cur, q3, q4, ho.heap q5 (h2 g (by rw [q3]; rfl)), q6⟩⟩
theorem RateAt.nil {w w' : World} {rb : Nat} {gap : Int} {v : Value} {ms : List Mk} (h : RateAt w rb gap v ms) (ho : Own [] w w') : RateAt w' rb gap v ms := h.own ho (by simp) (by simp) (by simp)

def HeapPost (w : World) (rb : Nat) (gap : Int) (v : Value) (n : Nat) (ms : List Mk) (r : Value) (e : Ending) (w' : World) : Prop :=
  ∃ ms', e = .returned r ∧ RateAt w' rb gap v ms' ∧ SameFrom n ms ms' ∧ Own v.ownBlock.toList w w'

set_option maxHeartbeats 1000000 in
theorem up_any (rb : Nat) (gap : Int) (v : Value) (ms : List Mk) (j : Nat) (w : World) (h : RateAt w rb gap v ms) (hj : j < ms.length) (hl : ms.length ≤ 1000) :
    Calls Tryz.prog 157 #[.iface 200 (.pointer (some ⟨rb, 1, none⟩)), .int .i64 j] w (HeapPost w rb gap v (j + 1) ms (.tuple #[])) := by
  replace h := Lib.hid h
  go_enter Tryz.func157, Tryz.ntmps157
  go_wp2_with fail
  go_loopg [1] j (fun g s1 wr => ∃ (ms' : List Mk), g ≤ j ∧ s1 = .int .i64 g ∧ RateAt wr rb gap v ms' ∧ SameFrom (j + 1) ms ms' ∧ Own v.ownBlock.toList w wr)
  case atStart => exact ⟨ms, Nat.le_refl _, rfl, h.out, SameFrom.refl _ _, Own.refl _ _⟩
  case round =>
    obtain ⟨ms', hg, rfl, hR, hS, hO⟩ := hrel
    have c1 : wr.cell? ⟨rb, 1, none⟩ = some v := cell_of_row wr rb 1 _ _ _ hR.row
    by_cases hk : gk = 0
    · subst hk
      go_wp2_with fail
      go_end0
      exact ⟨ms', rfl, hR, hS, hO⟩
    · obtain ⟨k, rfl⟩ : ∃ k, gk = k + 1 := ⟨gk - 1, by omega⟩
      obtain ⟨i, hi⟩ : ∃ i : Nat, (k : Int) / 2 = i := ⟨k / 2, by omega⟩
      have hik : i ≤ k := by omega
      have hlen := hS.len
      have hm1 := fun n => m_less n _ v wr c1
      have T := less_any v ms' (k + 1) i wr hR.marks (by omega) (by omega) (by omega)
      generalize decide ((ms'.getD (k + 1) Mk.dflt).at_ < (ms'.getD i Mk.dflt).at_) = B at T
      push_cast at T ⊢
      have hne : (i : Int) ≠ (k : Int) + 1 := by omega
      have hneb : ((i : Int) == (k : Int) + 1) = false := by simpa using hne
      replace T := Lib.hid T
      replace hR := Lib.hid hR
      go_wp2_with fail
      refine T.out.mono ?_
      rintro e w2 ⟨rfl, hO2⟩
      have hR2 := hR.out.nil hO2
      have hO3 := hO.trans hO2.nil
      cases B
      · go_wp2_with fail
        go_end0
        exact ⟨ms', rfl, hR2, hS, hO3⟩
      · have c2 : w2.cell? ⟨rb, 1, none⟩ = some v := cell_of_row w2 rb 1 _ _ _ hR2.row
        have hm2 := fun n => m_swap n _ v w2 c2
        have T2 := swap_any v ms' i (k + 1) w2 hR2.marks (by omega) (by omega) (by omega)
        push_cast at T2
        replace T2 := Lib.hid T2
        have hsw := SameFrom.swp (n := j + 1) ms' i (k + 1) (by omega) (by omega) (by omega)
        have A : Aside (RateAt w2 rb gap v ms' ∧ SameFrom (j + 1) ms (swp ms' i (k + 1)) ∧ (swp ms' i (k + 1)).Perm ms' ∧ Own v.ownBlock.toList w w2) := ⟨hR2, hS.trans hsw, hsw.1, hO3⟩
        clear hR2 hsw hO3 hS hO hO2
        go_wp2_with fail
        refine T2.out.mono ?_
        rintro e w3 ⟨rfl, hM3, hO4⟩
        go_wp2_with fail
        go_roundg i
        case measure => omega
        case rel => exact ⟨_, by omega, rfl, A.out.1.withMarks hM3 A.out.2.2.1 hO4, A.out.2.1, A.out.2.2.2.trans hO4⟩

def Own2 (w : World) (v v' : Value) : Prop := v'.ownBlock = v.ownBlock ∨ ∃ g, v'.ownBlock = some g ∧ w.heap.size ≤ g
def PushAllPost (w : World) (rb : Nat) (gap : Int) (v : Value) (ms : List Mk) (x : Mk) (e : Ending) (w' : World) : Prop :=
  ∃ v' ms', e = .returned (.tuple #[]) ∧ RateAt w' rb gap v' ms' ∧ ms'.Perm (ms ++ [x]) ∧ Own2 w v v' ∧ Own (rb :: v.ownBlock.toList) w w'

theorem hpush_any (rb : Nat) (gap : Int) (v : Value) (ms : List Mk) (x : Mk) (w : World) (h : RateAt w rb gap v ms) (hl : ms.length < 1000)
    (hx : w.heap[x.blk]? = some (.cells #[.string x.key, .int .i64 x.at_] 207 (0, 0))) (hxb : 0 ≤ x.at_ ∧ x.at_ ≤ 1073741824) (hx1 : x.blk ≠ rb) (hx2 : v.ownBlock ≠ some x.blk) :
    Calls Tryz.prog 112 #[.iface 200 (.pointer (some ⟨rb, 1, none⟩)), .iface 205 (.pointer (some ⟨x.blk, 0, none⟩))] w (PushAllPost w rb gap v ms x) := by
  have P := Lib.hid (push_any rb gap v ms x w h (by omega) hx hxb hx1 hx2)
  have hp := fun n => m_push n ⟨rb, 1, none⟩ w
  clear h hx hxb hx1 hx2
  go_enter Tryz.func112, Tryz.ntmps112
  go_wp2_with fail
  refine P.out.mono ?_
  rintro e w1 ⟨v1, rfl, hR, hv, hO⟩
  have c1 : w1.cell? ⟨rb, 1, none⟩ = some v1 := cell_of_row w1 rb 1 _ _ _ hR.row
  have hm1 := fun n => m_len n _ v1 w1 c1
  have U := Lib.hid (up_any rb gap v1 (ms ++ [x]) ms.length w1 hR (by simp) (by simp; omega))
  obtain ⟨g, cap, cur, rfl, hg, hn, hs, hc⟩ := hR.marks.shape (by simp)
  have hlen : (ms ++ [x]).length = ms.length + 1 := by simp
  rw [hlen] at c1 hm1 U hR hv
  replace hlen := Lib.hid hlen
  replace hR := Lib.hid hR
  replace hv := Lib.hid hv
  clear hg hn hs hc c1
  go_wp2_with (first | (go_at_call 157; refine U.out.mono ?_; rintro e w2 ⟨ms2, rfl, hR2, hS2, hO2⟩) | (go_at_call 283; go_in))
  go_end0
  refine ⟨_, ms2, rfl, hR2, hS2.1, hv.out, ?_⟩
  rcases hv.out with h1 | ⟨g', h1, h2⟩
  · exact hO.trans' hO2 (by rw [← h1]; simp [Value.ownBlock])
  · exact hO.trans' hO2 (by rw [h1]; simp; omega)

def DownPost (w : World) (rb : Nat) (gap : Int) (v : Value) (n : Nat) (ms : List Mk) (e : Ending) (w' : World) : Prop := ∃ b, HeapPost w rb gap v n ms (.bool b) e w'

set_option maxHeartbeats 4000000 in
theorem down_any (rb : Nat) (gap : Int) (v : Value) (ms : List Mk) (i0 n : Nat) (w : World) (h : RateAt w rb gap v ms) (hi : i0 < n) (hn : n ≤ ms.length) (hl : ms.length ≤ 1000) :
    Calls Tryz.prog 156 #[.iface 200 (.pointer (some ⟨rb, 1, none⟩)), .int .i64 i0, .int .i64 n] w (DownPost w rb gap v n ms) := by
  replace h := Lib.hid h
  go_enter Tryz.func156, Tryz.ntmps156
  go_wp2_with fail
  go_loopg [7] (n - i0) (fun g s7 wr => ∃ (ms' : List Mk) (i : Nat), i0 ≤ i ∧ i < n ∧ g = n - i ∧ s7 = .int .i64 i ∧ RateAt wr rb gap v ms' ∧ SameFrom n ms ms' ∧ Own v.ownBlock.toList w wr)
  case atStart => exact ⟨ms, i0, Nat.le_refl _, hi, rfl, rfl, h.out, SameFrom.refl _ _, Own.refl _ _⟩
  case round =>
    obtain ⟨ms', i, hi0, hin, rfl, rfl, hR, hS, hO⟩ := hrel
    clear h
    have hlen := hS.len
    have c1 : wr.cell? ⟨rb, 1, none⟩ = some v := cell_of_row wr rb 1 _ _ _ hR.row
    have hm1 := fun n => m_less n _ v wr c1
    by_cases h1 : n ≤ 2 * i + 1
    · replace hR := Lib.hid hR
      replace hS := Lib.hid hS
      clear hlen hm1 c1
      go_wp2_with fail
      go_ret
      exact ⟨_, ms', rfl, hR.out, hS.out, hO⟩
    · by_cases h2 : n ≤ 2 * i + 2
      · -- one child
        have T := less_any v ms' (2 * i + 1) i wr hR.marks (by omega) (by omega) (by omega)
        generalize decide ((ms'.getD (2 * i + 1) Mk.dflt).at_ < (ms'.getD i Mk.dflt).at_) = B at T
        push_cast at T
        replace T := Lib.hid T
        replace hR := Lib.hid hR
        replace hS := Lib.hid hS
        go_wp2_with fail
        refine T.out.mono ?_
        rintro e w2 ⟨rfl, hO2⟩
        have hR2 := hR.out.nil hO2
        have hO3 := hO.trans hO2.nil
        cases B
        · replace hR2 := Lib.hid hR2
          go_wp2_with fail
          go_ret
          exact ⟨_, ms', rfl, hR2.out, hS.out, hO3⟩
        · have c2 : w2.cell? ⟨rb, 1, none⟩ = some v := cell_of_row w2 rb 1 _ _ _ hR2.row
          have hm2 := fun n => m_swap n _ v w2 c2
          have T2 := swap_any v ms' i (2 * i + 1) w2 hR2.marks (by omega) (by omega) (by omega)
          push_cast at T2
          replace T2 := Lib.hid T2
          have hsw := SameFrom.swp (n := n) ms' i (2 * i + 1) (by omega) (by omega) (by omega)
          have A : Aside (RateAt w2 rb gap v ms' ∧ SameFrom n ms (swp ms' i (2 * i + 1)) ∧ (swp ms' i (2 * i + 1)).Perm ms' ∧ Own v.ownBlock.toList w w2) := ⟨hR2, hS.out.trans hsw, hsw.1, hO3⟩
          clear hR2 hsw hO3 hO hO2
          go_wp2_with fail
          refine T2.out.mono ?_
          rintro e w3 ⟨rfl, hM3, hO4⟩
          go_wp2_with fail
          go_roundg (n - (2 * i + 1))
          case measure => omega
          case rel => exact ⟨_, 2 * i + 1, by omega, by omega, rfl, by go_num, A.out.1.withMarks hM3 A.out.2.2.1 hO4, A.out.2.1, A.out.2.2.2.trans hO4⟩
      · -- two children
        have T := less_any v ms' (2 * i + 1 + 1) (2 * i + 1) wr hR.marks (by omega) (by omega) (by omega)
        generalize decide ((ms'.getD (2 * i + 1 + 1) Mk.dflt).at_ < (ms'.getD (2 * i + 1) Mk.dflt).at_) = B at T
        push_cast at T
        replace T := Lib.hid T
        replace hR := Lib.hid hR
        replace hS := Lib.hid hS
        go_wp2_with fail
        refine T.out.mono ?_
        rintro e w2 ⟨rfl, hO2⟩
        have hR2 := hR.out.nil hO2
        have hO3 := hO.trans hO2.nil
        have c2 : w2.cell? ⟨rb, 1, none⟩ = some v := cell_of_row w2 rb 1 _ _ _ hR2.row
        have hm2 := fun n => m_less n _ v w2 c2
        cases B
        · have T2 := less_any v ms' (2 * i + 1) i w2 hR2.marks (by omega) (by omega) (by omega)
          generalize decide ((ms'.getD (2 * i + 1) Mk.dflt).at_ < (ms'.getD i Mk.dflt).at_) = B2 at T2
          push_cast at T2
          replace T2 := Lib.hid T2
          replace hR2 := Lib.hid hR2
          go_wp2_with fail
          refine T2.out.mono ?_
          rintro e w3 ⟨rfl, hO4⟩
          have hR3 := hR2.out.nil hO4
          have hO5 := hO3.trans hO4.nil
          cases B2
          · replace hR3 := Lib.hid hR3
            go_wp2_with fail
            go_ret
            exact ⟨_, ms', rfl, hR3.out, hS.out, hO5⟩
          · have c3 : w3.cell? ⟨rb, 1, none⟩ = some v := cell_of_row w3 rb 1 _ _ _ hR3.row
            have hm3 := fun n => m_swap n _ v w3 c3
            have T3 := swap_any v ms' i (2 * i + 1) w3 hR3.marks (by omega) (by omega) (by omega)
            push_cast at T3
            replace T3 := Lib.hid T3
            have hsw := SameFrom.swp (n := n) ms' i (2 * i + 1) (by omega) (by omega) (by omega)
            have A : Aside (RateAt w3 rb gap v ms' ∧ SameFrom n ms (swp ms' i (2 * i + 1)) ∧ (swp ms' i (2 * i + 1)).Perm ms' ∧ Own v.ownBlock.toList w w3) := ⟨hR3, hS.out.trans hsw, hsw.1, hO5⟩
            clear hR3 hsw hO5 hO hO2 hO3 hO4
            go_wp2_with fail
            refine T3.out.mono ?_
            rintro e w4 ⟨rfl, hM3, hO6⟩
            go_wp2_with fail
            go_roundg (n - (2 * i + 1))
            case measure => omega
            case rel => exact ⟨_, 2 * i + 1, by omega, by omega, rfl, by go_num, A.out.1.withMarks hM3 A.out.2.2.1 hO6, A.out.2.1, A.out.2.2.2.trans hO6⟩
        · have T2 := less_any v ms' (2 * i + 1 + 1) i w2 hR2.marks (by omega) (by omega) (by omega)
          generalize decide ((ms'.getD (2 * i + 1 + 1) Mk.dflt).at_ < (ms'.getD i Mk.dflt).at_) = B2 at T2
          push_cast at T2
          replace T2 := Lib.hid T2
          replace hR2 := Lib.hid hR2
          go_wp2_with fail
          refine T2.out.mono ?_
          rintro e w3 ⟨rfl, hO4⟩
          have hR3 := hR2.out.nil hO4
          have hO5 := hO3.trans hO4.nil
          cases B2
          · replace hR3 := Lib.hid hR3
            go_wp2_with fail
            go_ret
            exact ⟨_, ms', rfl, hR3.out, hS.out, hO5⟩
          · have c3 : w3.cell? ⟨rb, 1, none⟩ = some v := cell_of_row w3 rb 1 _ _ _ hR3.row
            have hm3 := fun n => m_swap n _ v w3 c3
            have T3 := swap_any v ms' i (2 * i + 1 + 1) w3 hR3.marks (by omega) (by omega) (by omega)
            push_cast at T3
            replace T3 := Lib.hid T3
            have hsw := SameFrom.swp (n := n) ms' i (2 * i + 1 + 1) (by omega) (by omega) (by omega)
            have A : Aside (RateAt w3 rb gap v ms' ∧ SameFrom n ms (swp ms' i (2 * i + 1 + 1)) ∧ (swp ms' i (2 * i + 1 + 1)).Perm ms' ∧ Own v.ownBlock.toList w w3) := ⟨hR3, hS.out.trans hsw, hsw.1, hO5⟩
            clear hR3 hsw hO5 hO hO2 hO3 hO4
            go_wp2_with fail
            refine T3.out.mono ?_
            rintro e w4 ⟨rfl, hM3, hO6⟩
            go_wp2_with fail
            go_roundg (n - (2 * i + 1 + 1))
            case measure => omega
            case rel => exact ⟨_, 2 * i + 1 + 1, by omega, by omega, rfl, by go_num, A.out.1.withMarks hM3 A.out.2.2.1 hO6, A.out.2.1, A.out.2.2.2.trans hO6⟩

def RemPost (w : World) (rb : Nat) (gap : Int) (v : Value) (ms : List Mk) (i : Nat) (e : Ending) (w' : World) : Prop :=
  ∃ v' ms' x, e = .returned x ∧ RateAt w' rb gap v' ms' ∧ ms'.Perm (ms.eraseIdx i) ∧ v'.ownBlock = v.ownBlock ∧ Own (rb :: v.ownBlock.toList) w w'
end Go.Proofs.YtecociaolohfmaaGreatDoor
