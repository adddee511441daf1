/- RateApart: two times at which a key was granted lie the gap apart; other keys play no part. -/
import Derived.Test.YtigkpcdlfjlehaaRateTop
import Derived.Test.YtigkpcdlfjlehaaFlat
namespace Go.Proofs.Ytigkpcdlfjlehaa
open Go.RowKit

def kA : ByteArray := ⟨#[97]⟩
def kB : ByteArray := ⟨#[98]⟩
/-- What is known of the table: only two keys; the first one's last time. -/
def ApInv (l : RTab) (last : Int) : Prop := (∀ p ∈ l, p.1 = kA ∨ p.1 = kB) ∧ (l.map (·.1)).Nodup ∧ aGet l kA = if last < 0 then none else some last
theorem two_len {l : RTab} (h : ∀ p ∈ l, p.1 = kA ∨ p.1 = kB) (hn : (l.map (·.1)).Nodup) : l.length ≤ 2 := by
  match l with
  | [] => simp
  | [_] => simp
  | [_, _] => simp
  | x :: y :: z :: r =>
    exfalso
    simp only [List.map_cons, List.nodup_cons, List.mem_cons, not_or] at hn
    have hx := h x (by simp)
    have hy := h y (by simp)
    have hz := h z (by simp)
    obtain ⟨⟨n1, n2, _⟩, ⟨n3, _⟩, _⟩ := hn
    rcases hx with hx | hx <;> rcases hy with hy | hy <;> rcases hz with hz | hz <;> simp_all
theorem aGet_cons_self (l : RTab) (k : ByteArray) (v : Int) : aGet ((k, v) :: l) k = some v := by simp [aGet]
theorem aGet_cons_ne (l : RTab) {k k' : ByteArray} (v : Int) (h : k ≠ k') : aGet ((k, v) :: l) k' = aGet l k' := by
  unfold aGet; rw [List.find?_cons_of_neg (by simpa using h)]
theorem aGet_del_ne (l : RTab) {k k' : ByteArray} (h : k ≠ k') : aGet (aDel l k) k' = aGet l k' := by
  induction l with
  | nil => rfl
  | cons p r ih =>
    unfold aDel at ih ⊢
    by_cases hp : p.1 = k
    · have h1 : (!(p.1 == k)) = false := by simp [hp]
      rw [List.filter_cons, if_neg (by simp [h1]), ih]
      unfold aGet
      rw [List.find?_cons_of_neg (by simpa [hp] using h)]
    · have h1 : (!(p.1 == k)) = true := by simpa using hp
      rw [List.filter_cons, if_pos h1]
      unfold aGet at ih ⊢
      by_cases hp2 : p.1 = k'
      · rw [List.find?_cons_of_pos (by simpa using hp2), List.find?_cons_of_pos (by simpa using hp2)]
      · rw [List.find?_cons_of_neg (by simpa using hp2), List.find?_cons_of_neg (by simpa using hp2)]; exact ih
theorem kAB : kB ≠ kA := by decide
theorem apB {l : RTab} {last gap now : Int} (h : ApInv l last) : ApInv (rAsk l gap kB now) last := by
  unfold rAsk
  split
  · refine ⟨fun p hp => ?_, ?_, ?_⟩
    · rcases List.mem_cons.1 hp with rfl | hp
      · exact .inr rfl
      · exact h.1 p (List.mem_filter.1 hp).1
    · simp only [List.map_cons, List.nodup_cons]
      exact ⟨(aDel_nodup h.2.1 kB).2, (aDel_nodup h.2.1 kB).1⟩
    · rw [aGet_cons_ne _ _ kAB, aGet_del_ne _ kAB]; exact h.2.2
  · exact h
theorem apMay {l : RTab} {last gap now : Int} (h : ApInv l last) (hn : 0 ≤ now ∧ now ≤ 1073741824) : rMay l gap kA now = (decide (last < 0) || decide (gap ≤ now - last)) := by
  unfold rMay
  have ht : timedB now = true := by simp [timedB, hn.1, hn.2]
  rw [ht, h.2.2]
  by_cases hl : last < 0
  · have := two_len h.1 h.2.1
    simp [hl]; omega
  · simp [hl]
theorem apA {l : RTab} {last gap now : Int} (h : ApInv l last) (hn : 0 ≤ now ∧ now ≤ 1073741824) : ApInv (rAsk l gap kA now) (if rMay l gap kA now then now else last) := by
  unfold rAsk
  split
  · refine ⟨fun p hp => ?_, ?_, ?_⟩
    · rcases List.mem_cons.1 hp with rfl | hp
      · exact .inl rfl
      · exact h.1 p (List.mem_filter.1 hp).1
    · simp only [List.map_cons, List.nodup_cons]
      exact ⟨(aDel_nodup h.2.1 kA).2, (aDel_nodup h.2.1 kA).1⟩
    · rw [aGet_cons_self, if_neg (by omega)]
  · exact h

set_option maxRecDepth 100000 in
set_option maxHeartbeats 4000000 in
theorem apart_walk (gap : Int) (a1 : Option Addr) (n1 c1 : Nat) (z1 : Nat → Int) (a2 : Option Addr) (n2 c2 : Nat) (z2 : Nat → Bool) (w : World) (hg : (Lit.int .u8 gap).wf = true) (h1 : IntRow .u8 w a1 n1 z1) (h2 : BoolRow w a2 n2 z2) :
    Calls Try.prog 3 #[.int .u8 gap, .slice a1 n1 c1, .slice a2 n2 c2] w fun e w' => e = .returned (.bool true) ∧ Below w.heap.size w w' := by
  obtain ⟨hg0, hg1⟩ := bounds_u8 hg
  clear hg
  obtain ⟨hl1, h1⟩ := h1
  obtain ⟨hl2, h2⟩ := h2
  go_enter Try.func3, Try.ntmps3
  go_wp2_with fail
  refine (new_yes gap _ (by omega) (by omega)).mono ?_
  rintro e w1 ⟨rb, B1, rfl, hR1, hO1, hB1⟩
  replace hR1 := Lib.hid hR1
  go_wp2_with fail
  go_loopg [9, 10, 11] 80 (fun g s9 s10 s11 wr => ∃ (k : Nat) (B : List Nat) (l : RTab) (now last : Int), k ≤ n1 ∧ k ≤ 80 ∧ g = 80 - k ∧ s11 = .int .i64 k ∧ s9 = .int .i64 now ∧ s10 = .int .i64 last ∧ 0 ≤ now ∧ now ≤ 255 * k ∧ -1 ≤ last ∧ last ≤ now ∧
      Rate wr rb gap B l ∧ ApInv l last ∧ (∀ x ∈ B, w.heap.size ≤ x) ∧ Below w.heap.size w wr)
  case atStart => exact ⟨0, B1, [], 0, -1, by omega, by omega, rfl, rfl, rfl, rfl, by omega, by omega, by omega, by omega, hR1.out, ⟨by simp, by simp, rfl⟩, hB1, hO1.below (Nat.le_refl _) (by simp)⟩
  case round =>
    obtain ⟨k, B, l, now, last, hk1, hk2, rfl, rfl, rfl, rfl, hnow0, hnow1, hla0, hla1, hR, hV, hBl, hB⟩ := hrel
    have hBs := hB.size
    have hBB := Lib.hid (fun (B2 : List Nat) (h : ∀ x ∈ B2, x ∈ B ∨ wr.heap.size ≤ x) => (fun x hx => by rcases h x hx with h | h; exact hBl x h; omega : ∀ x ∈ B2, w.heap.size ≤ x))
    clear hR1
    by_cases hlt : k < n1 ∧ k < 80
    · obtain ⟨hlt1, hlt2⟩ := hlt
      obtain ⟨b1, o1, rfl, hb1, hc1⟩ := h1 (by omega)
      have hz := (hc1 k hlt1).2
      have hcs : wr.cell? ⟨b1, o1 + k, none⟩ = some (.int .u8 (z1 k)) := (hB.cell (p := ⟨b1, o1 + k, none⟩) hb1).trans (hc1 k hlt1).1
      obtain ⟨hz0, hz1⟩ := bounds_u8 hz
      generalize z1 k = s at *
      clear hz hc1
      by_cases hk2' : k < n2
      · obtain ⟨b2, o2, rfl, hb2, hc2⟩ := h2 (by omega)
        have hcb : wr.cell? ⟨b2, o2 + k, none⟩ = some (.bool (z2 k)) := (hB.cell (p := ⟨b2, o2 + k, none⟩) hb2).trans (hc2 k hk2')
        generalize z2 k = ob at *
        clear hc2
        cases ob
        · have hm := apMay (gap := gap) hV (show 0 ≤ now + s ∧ now + s ≤ 1073741824 by omega)
          have hA := apA (gap := gap) hV (show 0 ≤ now + s ∧ now + s ≤ 1073741824 by omega)
          rw [hm] at hA
          have T := ask_eq (key := kA) hm rfl wr hR
          replace hV := Lib.hid hV
          clear hR hm
          by_cases hlast : last < 0
          · obtain rfl : last = -1 := by omega
            simp only [show decide ((-1 : Int) < 0) = true from rfl, Bool.true_or, if_true] at T hA
            replace hA := Lib.hid hA
            replace T := Lib.hid T
            go_wp2_with fail
            refine T.out.mono ?_
            rintro e w2 ⟨rfl, B2, hR2, hO2, hB2⟩
            replace hR2 := Lib.hid hR2
            go_wp2_with fail
            go_roundg (80 - (k + 1))
            case measure => omega
            case rel => exact ⟨k + 1, B2, _, now + s, now + s, by omega, by omega, rfl, by go_num, rfl, rfl, by omega, by omega, by omega, by omega, hR2.out, hA.out, hBB.out B2 hB2, hB.trans (hO2.below hBs hBl)⟩
          · have hd : decide (last < 0) = false := by simpa using hlast
            rw [hd] at T hA
            by_cases hgp : gap ≤ now + s - last
            · have hgd : decide (gap ≤ now + s - last) = true := by simpa using hgp
              rw [hgd] at T hA
              simp only [Bool.false_or, if_true] at T hA
              replace hA := Lib.hid hA
              replace T := Lib.hid T
              clear hd hgd
              go_wp2_with fail
              refine T.out.mono ?_
              rintro e w2 ⟨rfl, B2, hR2, hO2, hB2⟩
              replace hR2 := Lib.hid hR2
              go_wp2_with fail
              go_roundg (80 - (k + 1))
              case measure => omega
              case rel => exact ⟨k + 1, B2, _, now + s, now + s, by omega, by omega, rfl, by go_num, rfl, rfl, by omega, by omega, by omega, by omega, hR2.out, hA.out, hBB.out B2 hB2, hB.trans (hO2.below hBs hBl)⟩
            · have hgd : decide (gap ≤ now + s - last) = false := by simpa using hgp
              rw [hgd] at T hA
              simp only [Bool.false_or, Bool.false_eq_true, if_false] at T hA
              replace hA := Lib.hid hA
              replace T := Lib.hid T
              clear hd hgd
              go_wp2_with fail
              refine T.out.mono ?_
              rintro e w2 ⟨rfl, B2, hR2, hO2, hB2⟩
              replace hR2 := Lib.hid hR2
              go_wp2_with fail
              go_roundg (80 - (k + 1))
              case measure => omega
              case rel => exact ⟨k + 1, B2, _, now + s, last, by omega, by omega, rfl, by go_num, rfl, rfl, by omega, by omega, by omega, by omega, hR2.out, hA.out, hBB.out B2 hB2, hB.trans (hO2.below hBs hBl)⟩
        · have T := ask_eq (key := kB) (now := now + s) rfl rfl wr hR
          have hA := apB (gap := gap) (now := now + s) hV
          generalize rMay l gap kB (now + s) = q at T
          replace T := Lib.hid T
          replace hA := Lib.hid hA
          clear hR hV
          go_wp2_with fail
          refine T.out.mono ?_
          rintro e w2 ⟨rfl, B2, hR2, hO2, hB2⟩
          replace hR2 := Lib.hid hR2
          go_wp2_with fail
          go_roundg (80 - (k + 1))
          case measure => omega
          case rel => exact ⟨k + 1, B2, _, now + s, last, by omega, by omega, rfl, by go_num, rfl, rfl, by omega, by omega, by omega, by omega, hR2.out, hA.out, hBB.out B2 hB2, hB.trans (hO2.below hBs hBl)⟩
      · clear h2
        have hm := apMay (gap := gap) hV (show 0 ≤ now + s ∧ now + s ≤ 1073741824 by omega)
        have hA := apA (gap := gap) hV (show 0 ≤ now + s ∧ now + s ≤ 1073741824 by omega)
        rw [hm] at hA
        have T := ask_eq (key := kA) hm rfl wr hR
        replace hV := Lib.hid hV
        clear hR hm
        by_cases hlast : last < 0
        · obtain rfl : last = -1 := by omega
          simp only [show decide ((-1 : Int) < 0) = true from rfl, Bool.true_or, if_true] at T hA
          replace hA := Lib.hid hA
          replace T := Lib.hid T
          go_wp2_with fail
          refine T.out.mono ?_
          rintro e w2 ⟨rfl, B2, hR2, hO2, hB2⟩
          replace hR2 := Lib.hid hR2
          go_wp2_with fail
          go_roundg (80 - (k + 1))
          case measure => omega
          case rel => exact ⟨k + 1, B2, _, now + s, now + s, by omega, by omega, rfl, by go_num, rfl, rfl, by omega, by omega, by omega, by omega, hR2.out, hA.out, hBB.out B2 hB2, hB.trans (hO2.below hBs hBl)⟩
        · have hd : decide (last < 0) = false := by simpa using hlast
          rw [hd] at T hA
          by_cases hgp : gap ≤ now + s - last
          · have hgd : decide (gap ≤ now + s - last) = true := by simpa using hgp
            rw [hgd] at T hA
            simp only [Bool.false_or, if_true] at T hA
            replace hA := Lib.hid hA
            replace T := Lib.hid T
            clear hd hgd
            go_wp2_with fail
            refine T.out.mono ?_
            rintro e w2 ⟨rfl, B2, hR2, hO2, hB2⟩
            replace hR2 := Lib.hid hR2
            go_wp2_with fail
            go_roundg (80 - (k + 1))
            case measure => omega
            case rel => exact ⟨k + 1, B2, _, now + s, now + s, by omega, by omega, rfl, by go_num, rfl, rfl, by omega, by omega, by omega, by omega, hR2.out, hA.out, hBB.out B2 hB2, hB.trans (hO2.below hBs hBl)⟩
          · have hgd : decide (gap ≤ now + s - last) = false := by simpa using hgp
            rw [hgd] at T hA
            simp only [Bool.false_or, Bool.false_eq_true, if_false] at T hA
            replace hA := Lib.hid hA
            replace T := Lib.hid T
            clear hd hgd
            go_wp2_with fail
            refine T.out.mono ?_
            rintro e w2 ⟨rfl, B2, hR2, hO2, hB2⟩
            replace hR2 := Lib.hid hR2
            go_wp2_with fail
            go_roundg (80 - (k + 1))
            case measure => omega
            case rel => exact ⟨k + 1, B2, _, now + s, last, by omega, by omega, rfl, by go_num, rfl, rfl, by omega, by omega, by omega, by omega, hR2.out, hA.out, hBB.out B2 hB2, hB.trans (hO2.below hBs hBl)⟩

    · have hL := last_any rb gap B l kA wr hR
      rw [hV.2.2] at hL
      have hAw := fun w => awake_any w
      replace hAw := Lib.hid hAw
      replace hV := Lib.hid hV
      clear hR h1 h2
      by_cases hlast : last < 0
      · obtain rfl : last = -1 := by omega
        simp only [show ((-1 : Int) < 0) from by omega, if_true, Option.getD_none, Option.isSome_none] at hL
        replace hL := Lib.hid hL
        by_cases q0 : k < n1
        · have q2 : ¬ k < 80 := fun q2 => hlt ⟨q0, q2⟩
          clear hlt
          go_wp2_with fail
          refine hL.out.mono ?_
          rintro e w2 ⟨rfl, hO2⟩
          have hB2 := hB.trans (hO2.below hBs (by simp))
          have hS2 := hB2.size
          clear hO2
          go_wp2_with fail
          refine (hAw.out _).mono ?_
          rintro e w3 ⟨rfl, hO3⟩
          go_wp2_with fail
          go_ret
          exact ⟨rfl, hB2.trans (hO3.below hS2 (by simp))⟩
        · clear hlt
          go_wp2_with fail
          refine hL.out.mono ?_
          rintro e w2 ⟨rfl, hO2⟩
          have hB2 := hB.trans (hO2.below hBs (by simp))
          have hS2 := hB2.size
          clear hO2
          go_wp2_with fail
          refine (hAw.out _).mono ?_
          rintro e w3 ⟨rfl, hO3⟩
          go_wp2_with fail
          go_ret
          exact ⟨rfl, hB2.trans (hO3.below hS2 (by simp))⟩
      · simp only [hlast, if_false, Option.getD_some, Option.isSome_some] at hL
        replace hL := Lib.hid hL
        by_cases q0 : k < n1
        · have q2 : ¬ k < 80 := fun q2 => hlt ⟨q0, q2⟩
          clear hlt
          go_wp2_with fail
          refine hL.out.mono ?_
          rintro e w2 ⟨rfl, hO2⟩
          have hB2 := hB.trans (hO2.below hBs (by simp))
          have hS2 := hB2.size
          clear hO2
          go_wp2_with fail
          refine (hAw.out _).mono ?_
          rintro e w3 ⟨rfl, hO3⟩
          go_wp2_with fail
          go_ret
          exact ⟨rfl, hB2.trans (hO3.below hS2 (by simp))⟩
        · clear hlt
          go_wp2_with fail
          refine hL.out.mono ?_
          rintro e w2 ⟨rfl, hO2⟩
          have hB2 := hB.trans (hO2.below hBs (by simp))
          have hS2 := hB2.size
          clear hO2
          go_wp2_with fail
          refine (hAw.out _).mono ?_
          rintro e w3 ⟨rfl, hO3⟩
          go_wp2_with fail
          go_ret
          exact ⟨rfl, hB2.trans (hO3.below hS2 (by simp))⟩
end Go.Proofs.Ytigkpcdlfjlehaa
