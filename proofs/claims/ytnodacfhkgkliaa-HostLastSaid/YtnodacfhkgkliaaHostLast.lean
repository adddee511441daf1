/- HostLast: for all names and texts that come, Online tells what the host of that name told last. -/
import Derived.Test.YtnodacfhkgkliaaHostAwake
import Derived.Test.YtnodacfhkgkliaaArgs
import Derived.StillTailTactics
namespace Go.Proofs.Ytnodacfhkgkliaa
open Go.RowKit

/-! ### plain -/
theorem hFind_set {st : HSt} {n : ByteArray} {i : Nat} (hf : hFind st n = some i) (on : Bool) (x : ByteArray) : hFind (st.set i (n, on)) x = hFind st x := by
  have h := hIdx_set hf on
  rw [← hIdx_find, h, hIdx_find]
theorem hOn_put (st : HSt) (n x : ByteArray) (on : Bool) : hOn (hPut st n on).2 x = if n = x ∧ (hPut st n on).1 = 1 then (on, true) else hOn st x := by
  unfold hPut
  cases hf : hFind st n with
  | some i =>
    have hi := hFind_lt hf
    simp only [and_true]
    unfold hOn
    rw [hFind_set hf]
    by_cases hx : n = x
    · subst hx
      simp [hf, hAt, List.getD, hi]
    · rw [if_neg hx]
      cases hfx : hFind st x with
      | none => rfl
      | some j =>
        have hij : i ≠ j := by
          rintro rfl
          exact hx ((hFind_name hf).symm.trans (hFind_name hfx))
        simp [hAt, List.getD, hij]
  | none =>
    by_cases hl : 4 ≤ st.length
    · simp [hl]
    · simp only [if_neg hl, and_true]
      unfold hOn
      by_cases hx : n = x
      · subst hx
        have : hFind (st ++ [(n, on)]) n = some st.length := by
          unfold hFind at hf ⊢
          rw [List.findIdx?_append, hf]
          simp
        simp [this, hAt, List.getD]
      · have : hFind (st ++ [(n, on)]) x = hFind st x := by
          unfold hFind
          rw [List.findIdx?_append]
          have : (x == n) = false := by simpa using Ne.symm hx
          simp [this]
        rw [this, if_neg hx]
        cases hfx : hFind st x with
        | none => rfl
        | some j =>
          have hj := hFind_lt hfx
          simp [hAt, List.getD, List.getElem?_append_left hj]
theorem hOn_take (st : HSt) (n t x : ByteArray) : hOn (hTake st n t).2 x = if n = x ∧ (hTake st n t).1 = 1 then (t.toList == upB, true) else hOn st x := by
  unfold hTake
  by_cases h1 : n.toList = []
  · simp [h1]
  · by_cases h2 : t.toList = upB
    · simp only [if_neg h1, if_pos h2, hOn_put]
      simp [h2]
    · by_cases h3 : t.toList = downB
      · simp only [if_neg h1, if_neg h2, if_pos h3, hOn_put]
        have : (t.toList == upB) = false := by simpa using h2
        simp [this]
      · simp [h1, h2, h3]

/-! ### the walk -/
theorem last_walk (a0 : Option Addr) (n0 c0 : Nat) (s0 : Nat → ByteArray) (a1 : Option Addr) (n1 c1 : Nat) (s1 : Nat → ByteArray) (nm : ByteArray) (w : World) (h0 : StrRow w a0 n0 s0) (h1 : StrRow w a1 n1 s1) (_hnm : nm.size ≤ 140737488351232) :
    Calls Try.prog 3 #[.slice a0 n0 c0, .slice a1 n1 c1, .string nm] w fun e w' => e = .returned (.bool true) ∧ Below w.heap.size w w' := by
  obtain ⟨hl0, h0⟩ := h0
  obtain ⟨hl1, h1⟩ := h1
  go_enter Try.func3, Try.ntmps3
  go_wp2_with fail
  refine (new_any _).mono ?_
  rintro e w1 ⟨b, m, rfl, hH, hb, hm, hO⟩
  go_wp2_with fail
  go_loopw [8, 9, 10] (fun kn on i wr => ∃ (k : Nat) (st : HSt), k ≤ n0 ∧ k ≤ n1 ∧ k ≤ 60 ∧ i = .int .i64 k ∧ kn = .bool (hOn st nm).2 ∧ on = .bool (hOn st nm).1 ∧ Host wr b m st ∧ Below w.heap.size w wr)
    (fun _ _ i _ => 60 - (intOf i).toNat)
  case atStart => exact ⟨0, [], by omega, by omega, by omega, rfl, rfl, rfl, hH, hO.below (Nat.le_refl _) (by simp)⟩
  case round =>
    obtain ⟨k, st, hk0, hk1, hk2, rfl, rfl, rfl, hHr, hB⟩ := hrel
    by_cases hlt : k < n0 ∧ k < n1 ∧ k < 60
    · obtain ⟨hlt0, hlt1, hlt2⟩ := hlt
      obtain ⟨b0, o0, rfl, hb0, hc0⟩ := h0 (by omega)
      obtain ⟨b1, o1, rfl, hb1, hc1⟩ := h1 (by omega)
      have hc0' := hc0
      have hc1' := hc1
      have hc0 : wr.cell? ⟨b0, o0 + k, none⟩ = some (.string (s0 k)) := (hB.cell (p := ⟨b0, o0 + k, none⟩) (by show b0 < _; omega)).trans (hc0' k hlt0)
      have hc1 : wr.cell? ⟨b1, o1 + k, none⟩ = some (.string (s1 k)) := (hB.cell (p := ⟨b1, o1 + k, none⟩) (by show b1 < _; omega)).trans (hc1' k hlt1)
      have hT := Lib.hid (take_any b m _ wr.drew (s0 k) (s1 k) hHr.drew)
      have hon := Lib.hid (hOn_take st (s0 k) (s1 k) nm)
      have hHr' := Lib.hid hHr
      generalize hTake st (s0 k) (s1 k) = r at hT hon
      go_wp2_with fail
      go_still_tail 9, (by kernel_rfl)
      change wpList _ _ _ _ _ wr.drew
      go_wp2_with fail
      refine hT.out.mono ?_
      rintro e w2 ⟨rfl, hH2, hO2⟩
      have hB2 : Below w.heap.size w w2 := hB.drew.trans (hO2.below (by have := hB.size; simpa using this) (by simp; omega))
      have hc0 : w2.cell? ⟨b0, o0 + k, none⟩ = some (.string (s0 k)) := (hB2.cell (p := ⟨b0, o0 + k, none⟩) (by show b0 < _; omega)).trans (hc0' k hlt0)
      have hc1 : w2.cell? ⟨b1, o1 + k, none⟩ = some (.string (s1 k)) := (hB2.cell (p := ⟨b1, o1 + k, none⟩) (by show b1 < _; omega)).trans (hc1' k hlt1)
      have hend : ∀ kn on : Bool, hOn r.2 nm = (on, kn) → ∃ (k' : Nat) (st' : HSt), k' ≤ n0 ∧ k' ≤ n1 ∧ k' ≤ 60 ∧ Value.int .i64 (k + 1) = .int .i64 k' ∧ Value.bool kn = .bool (hOn st' nm).2 ∧ Value.bool on = .bool (hOn st' nm).1 ∧ Host w2 b m st' ∧ Below w.heap.size w w2 :=
        fun kn on he => ⟨k + 1, r.2, by omega, by omega, by omega, by go_num, by rw [he], by rw [he], hH2, hB2⟩
      have hend := Lib.hid hend
      clear hc0' hc1' hB hB2 hO2 hH2 hHr hHr'
      by_cases hn : s0 k = nm
      · have hn1 : ((s0 k).toList == nm.toList) = true := by rw [hn]; simp
        by_cases hr : r.1 = 1
        · have hr1 : (r.1 == 1) = true := by simpa using hr
          have hon := Lib.hid (hon.out.trans (if_pos ⟨hn, hr⟩))
          clear hn hr
          go_wp2_with fail
          go_roundw
          case rel => exact hend.out _ _ hon.out
          case measure => simp [intOf]; omega
        · have hr1 : (r.1 == 1) = false := by simpa using hr
          have hon := Lib.hid (hon.out.trans (if_neg fun h => hr h.2))
          clear hn hr
          go_wp2_with fail
          go_roundw
          case rel => exact hend.out _ _ hon.out
          case measure => simp [intOf]; omega
      · have hn1 : ((s0 k).toList == nm.toList) = false := by
          rw [← beq_toListBytes]; simpa using hn
        have hon := Lib.hid (hon.out.trans (if_neg fun h => hn h.1))
        clear hn
        go_wp2_with fail
        go_roundw
        case rel => exact hend.out _ _ hon.out
        case measure => simp [intOf]; omega
    · have hO' := Lib.hid (online_any b m _ wr nm hHr)
      have hA := Lib.hid (awake_any wr)
      have hS := hB.size
      clear h0 h1 hHr hO hH
      by_cases q0 : k < n0
      · by_cases q1 : k < n1
        · have q2 : ¬ k < 60 := fun q2 => hlt ⟨q0, q1, q2⟩
          clear hlt
          go_wp2_with fail
          refine hO'.out.mono ?_
          rintro e w3 ⟨rfl, rfl⟩
          go_wp2_with fail
          refine hA.out.mono ?_
          rintro e w3 ⟨rfl, hA3⟩
          go_wp2_with fail
          go_ret
          exact ⟨rfl, hB.trans (hA3.below hS (by simp))⟩
        · clear hlt
          go_wp2_with fail
          refine hO'.out.mono ?_
          rintro e w3 ⟨rfl, rfl⟩
          go_wp2_with fail
          refine hA.out.mono ?_
          rintro e w3 ⟨rfl, hA3⟩
          go_wp2_with fail
          go_ret
          exact ⟨rfl, hB.trans (hA3.below hS (by simp))⟩
      · clear hlt
        go_wp2_with fail
        refine hO'.out.mono ?_
        rintro e w3 ⟨rfl, rfl⟩
        go_wp2_with fail
        refine hA.out.mono ?_
        rintro e w3 ⟨rfl, hA3⟩
        go_wp2_with fail
        go_ret
        exact ⟨rfl, hB.trans (hA3.below hS (by simp))⟩
end Go.Proofs.Ytnodacfhkgkliaa
