/- Package rate: Remove, find, May, Ask, Last, New, Len. -/
import Derived.Test.YtecociaolohfmaaGreatDoorRateUp
namespace Go.Proofs.YtecociaolohfmaaGreatDoor
open Go.RowKit

theorem Marks.sl {w : World} {v : Value} {ms : List Mk} (h : Marks w v ms) : ∃ a cap, v = .slice a ms.length cap := by
  obtain ⟨_, ⟨h1, h2⟩ | ⟨g, cap, cur, hv, _⟩⟩ := h.own
  · exact ⟨none, 0, by rw [h1, h2]⟩
  · exact ⟨_, cap, hv⟩

theorem perm_eraseIdx {α : Type} (l : List α) (i : Nat) (h : i < l.length) : (l[i] :: l.eraseIdx i).Perm l := by
  have h1 : l = l.take i ++ l[i] :: l.drop (i + 1) := by
    rw [List.getElem_cons_drop, List.take_append_drop]
  rw [List.eraseIdx_eq_take_drop_succ]
  conv => rhs; rw [h1]
  exact List.perm_middle.symm
theorem dropLast_perm {ms ms' : List Mk} {i n : Nat} (hn : ms.length = n + 1) (hi : i < n) (h : SameFrom n (swp ms i n) ms') : ms'.dropLast.Perm (ms.eraseIdx i) := by
  have hl : ms'.length = n + 1 := by rw [h.len, swp_len, hn]
  have hne : ms' ≠ [] := by intro e; rw [e] at hl; simp at hl
  have hx : ms'[n]? = ms[i]? := by
    rw [h.2 n (Nat.le_refl _)]
    unfold swp
    rw [List.getElem?_set_self (by simp; omega)]
    simp [List.getD, List.getElem?_eq_getElem (show i < ms.length by omega)]
  have hlast : ms'.getLast hne = ms[i] := by
    rw [List.getLast_eq_getElem]
    have h1 : ms'[n]? = some ms'[ms'.length - 1] := by
      have : ms'.length - 1 = n := by omega
      simp only [this]
      exact List.getElem?_eq_getElem (by omega)
    rw [h1, List.getElem?_eq_getElem (by omega)] at hx
    exact Option.some.inj hx
  have hp : ms'.Perm ms := h.1.trans (swp_perm ms i n (by omega) (by omega))
  have h1 : (ms'.dropLast ++ [ms[i]]).Perm ms' := by rw [← hlast, List.dropLast_concat_getLast hne]
  have h2 : (ms[i] :: ms.eraseIdx i).Perm ms := perm_eraseIdx ms i (by omega)
  have h3 : (ms[i] :: ms'.dropLast).Perm (ms[i] :: ms.eraseIdx i) := ((List.perm_append_singleton _ _).symm.trans h1).trans (hp.trans h2.symm)
  exact List.Perm.cons_inv h3

set_option maxHeartbeats 1000000 in
theorem remove_any (rb : Nat) (gap : Int) (v : Value) (ms : List Mk) (i : Nat) (w : World) (h : RateAt w rb gap v ms) (hi : i < ms.length) (hl : ms.length ≤ 1000) :
    Calls Tryz.prog 111 #[.iface 200 (.pointer (some ⟨rb, 1, none⟩)), .int .i64 i] w (RemPost w rb gap v ms i) := by
  have c1 : w.cell? ⟨rb, 1, none⟩ = some v := cell_of_row w rb 1 _ _ _ h.row
  have hm1 := fun n => m_len n _ v w c1
  obtain ⟨n, hn⟩ : ∃ n, ms.length = n + 1 := ⟨ms.length - 1, by omega⟩
  obtain ⟨a, cap, rfl⟩ := h.marks.sl
  by_cases hin : i = n
  · subst hin
    have hp := fun k => m_pop k ⟨rb, 1, none⟩ w
    have P := Lib.hid (pop_any rb gap _ ms w h (by omega) hl)
    have he : ms.dropLast = ms.eraseIdx i := by
      rw [List.dropLast_eq_take, List.eraseIdx_eq_take_drop_succ, hn, List.drop_eq_nil_of_le (by omega)]; simp
    replace he := Lib.hid he
    rw [hn] at P hm1 c1 hl hi ⊢
    clear h hn
    go_enter Tryz.func111, Tryz.ntmps111
    go_wp2_with (first | (go_at_call 286; refine P.out.mono ?_; rintro e w2 ⟨v2, x, rfl, hR2, hv2, hO2⟩) | (go_at_call 283; go_in))
    go_ret
    exact ⟨_, _, _, rfl, he.out ▸ hR2, List.Perm.refl _, hv2, hO2.mono (by simp)⟩
  · have hil : i < n := by omega
    have S := swap_any _ ms i n w h.marks hi (by omega) hin
    have hsp := swp_perm ms i n hi (by omega)
    have hsl := swp_len ms i n
    rw [hn] at hsl
    have hms := fun k => m_swap k _ _ w c1
    have hnb : ((n : Int) != i) = true := by simp; omega
    have U : ∀ w2, RateAt w2 rb gap (.slice a ms.length cap) (swp ms i n) → _ := fun w2 h2 => down_any rb gap _ (swp ms i n) i n w2 h2 hil (by omega) (by omega)
    have V : ∀ w2 ms2, RateAt w2 rb gap (.slice a ms.length cap) ms2 → ms2.length = n + 1 → _ := fun w2 ms2 h2 hl2 => up_any rb gap _ ms2 i w2 h2 (by omega) (by omega)
    have P : ∀ w2 ms2, RateAt w2 rb gap (.slice a ms.length cap) ms2 → ms2.length = n + 1 → _ := fun w2 ms2 h2 hl2 => pop_any rb gap _ ms2 w2 h2 (by omega) (by omega)
    have hfin := fun ms2 h2 => dropLast_perm (ms := ms) (ms' := ms2) hn hil h2
    rw [hn] at S U V P h hm1 hms c1 hl hi ⊢
    replace S := Lib.hid S
    replace U := Lib.hid U
    replace V := Lib.hid V
    replace P := Lib.hid P
    replace h := Lib.hid h
    replace hn := Lib.hid hn
    replace hfin := Lib.hid hfin
    go_enter Tryz.func111, Tryz.ntmps111
    go_wp2_with (first | (go_at_call 283; go_in))
    refine S.out.mono ?_
    rintro e w2 ⟨rfl, hM2, hO2⟩
    have hR2 := h.out.withMarks hM2 hsp hO2
    have D := Lib.hid (U.out w2 hR2)
    clear S hM2 hm1 hms
    go_wp2_with fail
    refine D.out.mono ?_
    rintro e w3 ⟨q, ms3, rfl, hR3, hS3, hO3⟩
    have hl3 : ms3.length = n + 1 := by rw [hS3.len, hsl]
    cases q
    · have U2 := Lib.hid (V.out w3 ms3 hR3 hl3)
      replace hR3 := Lib.hid hR3
      replace hl3 := Lib.hid hl3
      go_wp2_with fail
      refine U2.out.mono ?_
      rintro e w4 ⟨ms4, rfl, hR4, hS4, hO4⟩
      have hl4 : ms4.length = n + 1 := by rw [hS4.len, hl3.out]
      have P4 := Lib.hid (P.out w4 ms4 hR4 hl4)
      have hp := fun k => m_pop k ⟨rb, 1, none⟩ w4
      replace hR4 := Lib.hid hR4
      replace hl4 := Lib.hid hl4
      go_wp2_with fail
      refine P4.out.mono ?_
      rintro e w5 ⟨v5, x5, rfl, hR5, hv5, hO5⟩
      go_wp2_with fail
      go_ret
      exact ⟨_, _, _, rfl, hR5, hfin.out _ (hS3.trans (hS4.mono (by omega))), hv5, (((hO2.trans hO3).trans hO4).mono (fun x hx => List.mem_cons_of_mem _ hx)).trans (hO5.mono (by simp))⟩
    · have P4 := Lib.hid (P.out w3 ms3 hR3 hl3)
      have hp := fun k => m_pop k ⟨rb, 1, none⟩ w3
      replace hR3 := Lib.hid hR3
      replace hl3 := Lib.hid hl3
      go_wp2_with fail
      refine P4.out.mono ?_
      rintro e w5 ⟨v5, x5, rfl, hR5, hv5, hO5⟩
      go_wp2_with fail
      go_ret
      exact ⟨_, _, _, rfl, hR5, hfin.out _ hS3, hv5, ((hO2.trans hO3).mono (fun x hx => List.mem_cons_of_mem _ hx)).trans (hO5.mono (by simp))⟩
end Go.Proofs.YtecociaolohfmaaGreatDoor
