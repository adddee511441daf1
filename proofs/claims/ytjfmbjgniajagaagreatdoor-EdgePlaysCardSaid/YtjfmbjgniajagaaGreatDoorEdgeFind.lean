/- Package edge: find: where a device stands. -/
import Derived.Test.YtjfmbjgniajagaaGreatDoorEdgeView
import Derived.Test.YtjfmbjgniajagaaGreatDoorRise
import Derived.Deep.LoopGhost
set_option linter.unusedSimpArgs false
namespace Go.Proofs.YtjfmbjgniajagaaGreatDoor
open Go.RowKit

theorem rPos_iff {α : Type} {key : α → ByteArray} {r : List α} (hr : Rises key r) {n : ByteArray} {k : Nat} {p : α} (hk : r[k]? = some p) : sless (key p) n = true ↔ k < rPos key r n := by
  constructor
  · intro h
    rcases Nat.lt_or_ge k (rPos key r n) with h1 | h1
    · exact h1
    · exfalso
      have hl : rPos key r n < r.length := Nat.lt_of_le_of_lt h1 (List.getElem?_eq_some_iff.1 hk).1
      have h2 := rPos_at (key := key) (r := r) (n := n) (List.getElem?_eq_getElem hl)
      rcases Nat.lt_or_ge (rPos key r n) k with h3 | h3
      · have h4 := List.pairwise_iff_getElem.1 hr (rPos key r n) k hl (List.getElem?_eq_some_iff.1 hk).1 h3
        rw [(List.getElem?_eq_some_iff.1 hk).2] at h4
        rw [sless_trans h4 h] at h2
        cases h2
      · have : k = rPos key r n := by omega
        subst this
        rw [(List.getElem?_eq_some_iff.1 hk).2, h] at h2
        cases h2
  · intro h
    obtain ⟨q, h1, h2⟩ := rPos_lt h
    rw [h1] at hk
    cases hk
    exact h2
theorem nan_any (s : ByteArray) (w : World) : Calls Tryz.prog 114 #[.string s] w fun e w' => e = .returned (.bool false) ∧ w = w' := by
  have hs : (s == s) = true := by simp
  have hs2 : (s.toList == s.toList) = true := by simp
  go_enter Tryz.func114, Tryz.ntmps114
  go_wp2_with fail
  go_ret
  exact ⟨by simp, rfl⟩
theorem ccmp_any (s t : ByteArray) (w : World) : Calls Tryz.prog 94 #[.string s, .string t] w fun e w' => e = .returned (.int .i64 (scmp s t)) ∧ w = w' := by
  have N := Lib.hid (fun x W => nan_any x W)
  unfold scmp
  have h0 : sless s t = true → sless t s = false := sless_asymm
  have h1 : sless s t = false → sless t s = false → (s.toList == t.toList) = true := fun h1 h2 => by rw [sless_total h1 h2]; simp
  have h2 : sless t s = true → (s.toList == t.toList) = false := fun h => by
    cases hb : s.toList == t.toList with
    | false => rfl
    | true =>
      have := toList_inj (by simpa using hb : s.toList = t.toList)
      subst this
      rw [sless_irrefl] at h; cases h
  cases hs : sless s t
  · cases ht : sless t s
    · have h3 := h1 hs ht
      unfold sless at hs
      rw [h3]
      clear h0 h1 h2 ht
      go_enter Tryz.func94, Tryz.ntmps94
      go_wp2_with (go_at_call 114; (with_reducible refine (N.out _ _).mono ?_); rintro e w1 ⟨rfl, rfl⟩)
      go_ret
      exact ⟨by simp, rfl⟩
    · have h3 := h2 ht
      unfold sless at hs
      rw [h3]
      clear h0 h1 h2 ht
      go_enter Tryz.func94, Tryz.ntmps94
      go_wp2_with (go_at_call 114; (with_reducible refine (N.out _ _).mono ?_); rintro e w1 ⟨rfl, rfl⟩)
      go_ret
      exact ⟨by simp, rfl⟩
  · unfold sless at hs
    clear h0 h1 h2
    go_enter Tryz.func94, Tryz.ntmps94
    go_wp2_with (go_at_call 114; (with_reducible refine (N.out _ _).mono ?_); rintro e w1 ⟨rfl, rfl⟩)
    go_ret
    exact ⟨by simp, rfl⟩
theorem dview_name (a : ByteArray) (b : Bool) (c : Option Addr) (l k : Nat) (w : World) : (Instr.field 56 (.agg #[.string a, .bool b, .slice c l k]) 0).run Tryz.prog w = .ok (.string a) w := by kernel_rfl
theorem efcmp_any (d : DW) (x : Dev) (nm : ByteArray) (w : World) (h : DevAt w d x) : Calls Tryz.prog 93 #[.pointer (some ⟨d.blk, 0, none⟩), .string nm] w fun e w' => e = .returned (.int .i64 (scmp x.name nm)) ∧ Own [] w w' := by
  have V := Lib.hid (dview_any d x w h)
  have C := Lib.hid (fun W => ccmp_any x.name nm W)
  have hf := dview_name
  clear h
  go_enter Tryz.func93, Tryz.ntmps93
  go_wp2_with (first
    | (go_at_call 28; (with_reducible refine V.out.mono ?_); rintro e w1 ⟨a, cap, rfl, _, hO⟩; replace hO := Lib.hid hO)
    | (go_at_call 94; (with_reducible refine (C.out _).mono ?_); rintro e w2 ⟨rfl, rfl⟩))
  go_ret
  exact ⟨rfl, hO.out⟩
set_option maxRecDepth 100000 in
set_option maxHeartbeats 4000000 in
theorem bsearch_any (n : Nat) (g nm : ByteArray) (L : EW) (s : EN) (dn : ByteArray) (w : World) (h : EdgeAt w n g nm L s) (hr : Rises Dev.name s.dev) :
    Calls Tryz.prog 92 #[L.dv, .string dn, (.func (.func 93) #[] #[])] w fun e w' => e = .returned (.tuple #[.int .i64 (rPos Dev.name s.dev dn), .bool (rHas Dev.name s.dev dn)]) ∧ Own [] w w' := by
  obtain ⟨da, dc, hdv⟩ := h.dvs.sl
  have hlen := h.len
  have hl4 := h.few.2.2
  have hpl := rPos_le (key := Dev.name) s.dev dn
  rw [hdv]
  obtain ⟨pos, hpos⟩ : ∃ pos, rPos Dev.name s.dev dn = pos := ⟨_, rfl⟩
  have hiff : ∀ k (hk : k < s.dev.length), sless (s.dev[k]).name dn = true ↔ k < pos := fun k hk => by rw [← hpos]; exact rPos_iff hr (List.getElem?_eq_getElem hk)
  have hhas : ∀ hk : pos < s.dev.length, rHas Dev.name s.dev dn = ((s.dev[pos]).name.toList == dn.toList) := fun hk => by
    unfold rHas
    rw [hpos, List.getElem?_eq_getElem hk]
  have hno : s.dev.length ≤ pos → rHas Dev.name s.dev dn = false := fun hk => by
    unfold rHas
    rw [hpos, List.getElem?_eq_none hk]
  have hfin : ∀ k, (hk : k < s.dev.length) → k = pos → (scmp (s.dev[k]).name dn = 0 ↔ rHas Dev.name s.dev dn = true) := fun k hk e => by
    subst e
    rw [hhas hk]
    have h1 : sless (s.dev[k]).name dn = false := by
      cases hb : sless (s.dev[k]).name dn with
      | false => rfl
      | true => exact absurd ((hiff k hk).1 hb) (Nat.lt_irrefl _)
    unfold scmp
    rw [h1]
    simp
  have hC : ∀ W k, Own [] w W → k < L.ds.length → ∃ gb d x, da = some ⟨gb, 0, none⟩ ∧ W.cell? ⟨gb, k, none⟩ = some (.pointer (some ⟨DW.blk d, 0, none⟩)) ∧ DevAt W d x ∧ (sless x.name dn = true ↔ k < pos) ∧ (k = pos → (scmp x.name dn = 0 ↔ rHas Dev.name s.dev dn = true)) := fun W k ho hk => by
    have hE := h.nil' ho
    have hk2 : k < s.dev.length := by omega
    rcases hE.dvs.form with ⟨h1, h2⟩ | ⟨gb, cp, h1, _, hR⟩
    · rw [h2] at hk; simp at hk
    · rw [hdv] at h1
      cases h1
      have := hR.cell dEnc_len (List.getElem?_eq_getElem hk) (show (dEnc L.ds[k])[0]? = _ from rfl)
      exact ⟨gb, L.ds[k], s.dev[k], rfl, by simpa using this, hE.devs k _ _ (List.getElem?_eq_getElem hk) (List.getElem?_eq_getElem hk2), hiff k hk2, hfin k hk2⟩
  have hno2 : pos < s.dev.length ∨ rHas Dev.name s.dev dn = false := by
    rcases Nat.lt_or_ge pos s.dev.length with h1 | h1
    · exact .inl h1
    · exact .inr (hno h1)
  clear hiff hfin hno hhas
  rw [hpos] at hpl ⊢
  rw [hlen] at hno2 hpl hl4
  replace hdv := Lib.hid hdv
  replace hlen := Lib.hid hlen
  generalize rHas Dev.name s.dev dn = has at *
  clear hdv hlen hpos h hr
  generalize L.ds.length = N at *
  replace hC := Lib.hid hC
  replace hno2 := Lib.hid hno2
  go_enter Tryz.func92, Tryz.ntmps92
  go_wp2_with fail
  go_loopg [9, 10] N (fun m s9 s10 wr => ∃ i j : Nat, i ≤ pos ∧ pos ≤ j ∧ j ≤ N ∧ m = j - i ∧ s9 = .int .i64 i ∧ s10 = .int .i64 j ∧ Aside (Own [] w wr))
  case atStart => exact ⟨0, N, by omega, hpl, by omega, by omega, rfl, rfl, Own.refl _ _⟩
  case round =>
    obtain ⟨i, j, hi, hj, hjN, rfl, rfl, rfl, hO⟩ := hrel
    by_cases hlt : i < j
    · obtain ⟨gb, d, x, rfl, hcell, hdev, hif, _⟩ := hC.out wr ((i + j) / 2) hO (by omega)
      have cF := efcmp_any d x dn wr hdev
      generalize d.blk = db at *
      have e1 : (i + j) / 2 < N := by omega
      have e2 : (((i : Int) + j) / 2).toNat = (i + j) / 2 := by omega
      clear hdev
      by_cases hb : (i + j) / 2 < pos
      · have hsc : scmp x.name dn = -1 := by unfold scmp; rw [if_pos (hif.2 hb)]
        rw [hsc] at cF
        replace cF := Lib.hid cF
        clear hif hsc
        go_wp2_with (go_at_call 93; (with_reducible refine cF.out.mono ?_); rintro e w1 ⟨rfl, hO1⟩; replace hO1 := Lib.hid (hO.trans hO1))
        go_roundg (j - ((i + j) / 2 + 1))
        case rel => exact ⟨(i + j) / 2 + 1, j, by omega, hj, hjN, rfl, congrArg (Value.int .i64) (by omega), rfl, hO1.out⟩
        case measure => omega
      · obtain ⟨c, hsc, hc⟩ : ∃ c, scmp x.name dn = c ∧ 0 ≤ c := by
          refine ⟨_, rfl, ?_⟩
          unfold scmp
          rw [if_neg (fun h => hb (hif.1 h))]
          split <;> decide
        rw [hsc] at cF
        replace cF := Lib.hid cF
        have hcb : decide (c < 0) = false := by simp; omega
        clear hif hsc
        go_wp2_with (go_at_call 93; (with_reducible refine cF.out.mono ?_); rintro e w1 ⟨rfl, hO1⟩; replace hO1 := Lib.hid (hO.trans hO1))
        go_roundg ((i + j) / 2 - i)
        case rel => exact ⟨i, (i + j) / 2, hi, by omega, by omega, rfl, rfl, congrArg (Value.int .i64) (by omega), hO1.out⟩
        case measure => omega
    · obtain rfl : i = pos := by omega
      by_cases hip : i < N
      · obtain ⟨gb, d, x, rfl, hcell, hdev, _, hif⟩ := hC.out wr i hO hip
        have cF := efcmp_any d x dn wr hdev
        generalize d.blk = db at *
        replace hif := hif rfl
        cases has
        · obtain ⟨c, hsc, hc⟩ : ∃ c, scmp x.name dn = c ∧ (c == 0) = false := ⟨_, rfl, by simpa using hif⟩
          rw [hsc] at cF
          replace cF := Lib.hid cF
          clear hif hsc hdev
          go_wp2_with (go_at_call 93; (with_reducible refine cF.out.mono ?_); rintro e w1 ⟨rfl, hO1⟩; replace hO1 := Lib.hid (hO.trans hO1))
          go_ret2
          exact ⟨rfl, hO1.out⟩
        · rw [hif.2 rfl] at cF
          replace cF := Lib.hid cF
          clear hif hdev
          go_wp2_with (go_at_call 93; (with_reducible refine cF.out.mono ?_); rintro e w1 ⟨rfl, hO1⟩; replace hO1 := Lib.hid (hO.trans hO1))
          go_ret2
          exact ⟨rfl, hO1.out⟩
      · obtain rfl : has = false := by rcases hno2.out with h1 | h1; omega; exact h1
        go_wp2_with fail
        go_ret2
        exact ⟨rfl, hO⟩
set_option maxHeartbeats 1000000 in
theorem efind_any (n : Nat) (g nm : ByteArray) (L : EW) (s : EN) (dn : ByteArray) (w : World) (h : EdgeAt w n g nm L s) (hr : Rises Dev.name s.dev) :
    Calls Tryz.prog 60 #[.pointer (some ⟨n, 0, none⟩), .string dn] w fun e w' => e = .returned (.tuple #[.int .i64 (rPos Dev.name s.dev dn), .bool (rHas Dev.name s.dev dn)]) ∧ Own [] w w' := by
  have B := bsearch_any n g nm L s dn w h hr
  obtain ⟨⟨k2, k3, k4, k5, k6, k7, k8⟩, _⟩ := edge_cells h (S := []) (by simp) _ (Own.refl _ _)
  obtain ⟨da, dc, hdv⟩ := h.dvs.sl
  rw [hdv] at B k8
  generalize rPos Dev.name s.dev dn = pos at *
  generalize rHas Dev.name s.dev dn = has at *
  replace B := Lib.hid B
  clear h hr hdv k2 k3 k4 k5 k6 k7
  go_enter Tryz.func60, Tryz.ntmps60
  go_wp2_with (go_at_call 92; (with_reducible refine B.out.mono ?_); rintro e w1 ⟨rfl, hO⟩; replace hO := Lib.hid hO)
  go_ret2
  exact ⟨rfl, hO.out⟩
end Go.Proofs.YtjfmbjgniajagaaGreatDoor
