/- Names of topics: utf.Right, level.wild, level.sized, level.Name: each answers by its text alone. -/
import Derived.Test.YtecociaolohfmaaGreatDoorChecked
import Derived.Test.YtecociaolohfmaaGreatDoorBase
import Derived.WalkMore
import Derived.Below
import Derived.Test.YtecociaolohfmaaGreatDoorShelf
import Derived.Shelf.Unicode.ValidAny
import Derived.Shelf.Strings.Count
import Derived.Laws.RangeAny
import Derived.Deep.LoopGhost
namespace Go.Proofs
open Go.RowKit Go.Shelf Go.Lib

namespace YtecociaolohfmaaGreatDoor
/-- The tables of unicode/utf8 hold what the library's text lays. -/
def Tabs (w : World) : Prop := Lib.Utf8Tabs (Tryz.laysValid_ren.g 3) (Tryz.laysValid_ren.g 4) w
theorem Tabs.below {w w' : World} (h : Tabs w) (hb : Below w.heap.size w w') : Tabs w' := Utf8Tabs_below h hb
theorem Tabs.own {S : List Nat} {w w' : World} (h : Tabs w) (hb : Own S w w') (hs : ∀ x ∈ S, w.heap.size ≤ x) : Tabs w' := h.below (hb.below (Nat.le_refl _) hs)
theorem Tabs.drew {w : World} (h : Tabs w) : Tabs w.drew := h

/-- Has a text a rune of a kind, from a place on? -/
def hasRune (p : Nat → Bool) (s : ByteArray) : Nat → Nat → Bool
  | 0, _ => false
  | f + 1, i => if i < s.size then p (Utf8.decode s i).1 || hasRune p s f (i + (Utf8.decode s i).2) else false
theorem width_pos (s : ByteArray) (i : Nat) (h : i < s.size) : 1 ≤ (Utf8.decode s i).2 := by
  by_cases ha : (s[i]'h).toNat < 128
  · rw [decode_ascii s i h ha]; exact Nat.le_refl 1
  · exact (decode_high s i h (by omega)).2
theorem hasRune_end (p : Nat → Bool) (s : ByteArray) (f i : Nat) (h : ¬ i < s.size) : hasRune p s f i = false := by
  cases f with
  | zero => rfl
  | succ f => simp [hasRune, h]
/-- More fuel than is needed changes nothing. -/
theorem hasRune_fuel (p : Nat → Bool) (s : ByteArray) : ∀ (f g i : Nat), s.size ≤ i + f → s.size ≤ i + g → hasRune p s f i = hasRune p s g i
  | 0, g, i, h1, _ => by rw [hasRune_end p s g i (by omega)]; rfl
  | f + 1, 0, i, _, h2 => by rw [hasRune_end p s (f + 1) i (by omega)]; rfl
  | f + 1, g + 1, i, h1, h2 => by
    simp only [hasRune]
    by_cases hi : i < s.size
    · have hw := width_pos s i hi
      rw [if_pos hi, if_pos hi, hasRune_fuel p s f g _ (by omega) (by omega)]
    · rw [if_neg hi, if_neg hi]
theorem hasRune_step (p : Nat → Bool) (s : ByteArray) (i : Nat) (h : i < s.size) : hasRune p s s.size i = (p (Utf8.decode s i).1 || hasRune p s s.size (i + (Utf8.decode s i).2)) := by
  have hw := width_pos s i h
  rw [hasRune_fuel p s s.size (s.size + 1) i (by omega) (by omega)]
  simp only [hasRune]
  rw [if_pos h]

def isNul (c : Nat) : Bool := c == 0
def isWild (c : Nat) : Bool := c == 43 || c == 35
def utfRight (s : ByteArray) : Bool := !(decide (65535 < s.size) || !(Lib.validD s.data.toList)) && !(hasRune isNul s s.size 0)
def lvWild (s : ByteArray) : Bool := hasRune isWild s s.size 0
def lvSized (s : ByteArray) : Bool := !(s.toList.isEmpty || decide (96 < s.size) || !(utfRight s)) && decide (Lib.countByte s.data.toList 47 < 12)
def lvName (s : ByteArray) : Bool := lvSized s && !(lvWild s)

set_option maxRecDepth 100000 in
set_option maxHeartbeats 4000000 in
theorem wild_any (s : ByteArray) (w : World) :
    Calls Tryz.prog 97 #[.string s] w fun e w' => e = .returned (.bool (lvWild s)) ∧ Own [] w w' := by
  obtain ⟨ANS, hANS⟩ : ∃ ANS, lvWild s = ANS := ⟨_, rfl⟩
  rw [hANS]
  go_enter Tryz.func97, Tryz.ntmps97
  go_wp2
  go_loopg [4] (s.size + 1) (fun g _ wr => ∃ i : Nat, wr = w.iter s i ∧ g = s.size + 1 - i ∧ Aside (hasRune isWild s s.size i = ANS))
  case atStart => exact ⟨0, rfl, rfl, hANS⟩
  case round =>
    obtain ⟨i, rfl, hg, hA⟩ := hrel
    replace hA := hA.out
    by_cases hi : i < s.size
    · have hnx : ∀ ty, (Instr.next (.pointer (some ⟨w.heap.size, 0, none⟩)) true ty).run Tryz.prog (w.iter s i) = _ := fun ty => run_next_any w s i ty hi
      have hw := width_pos s i hi
      rw [hasRune_step isWild s i hi] at hA
      replace hw := Lib.hid hw
      replace hg := Lib.hid hg
      cases hc : isWild (Utf8.decode s i).1
      · have h43 : ((((Utf8.decode s i).1 : Nat) : Int) == 43) = false := by simp [isWild] at hc; simp; omega
        have h35 : ((((Utf8.decode s i).1 : Nat) : Int) == 35) = false := by simp [isWild] at hc; simp; omega
        rw [hc, Bool.false_or] at hA
        replace hA := Lib.hid hA
        go_wp2
        go_roundg (s.size + 1 - (i + (Utf8.decode s i).2))
        case measure => have := hw.out; have := hg.out; omega
        case rel => exact ⟨_, rfl, rfl, hA.out⟩
      · rw [hc, Bool.true_or] at hA
        subst hA
        by_cases h4 : (Utf8.decode s i).1 = 43
        · have h43 : ((((Utf8.decode s i).1 : Nat) : Int) == 43) = true := by simp; omega
          replace h4 := Lib.hid h4
          go_wp2
          go_ret
          exact ⟨rfl, (Own.refl [] w).alloc _⟩
        · have h43 : ((((Utf8.decode s i).1 : Nat) : Int) == 43) = false := by simp; omega
          have h35 : ((((Utf8.decode s i).1 : Nat) : Int) == 35) = true := by simp [isWild] at hc; simp; omega
          replace h4 := Lib.hid h4
          go_wp2
          go_ret
          exact ⟨rfl, (Own.refl [] w).alloc _⟩
    · have hnx : ∀ ty, (Instr.next (.pointer (some ⟨w.heap.size, 0, none⟩)) true ty).run Tryz.prog (w.iter s i) = _ := fun ty => run_next_end w s i ty hi
      rw [hasRune_end _ _ _ _ hi] at hA
      subst hA
      go_wp2
      go_ret
      exact ⟨rfl, (Own.refl [] w).alloc _⟩

set_option maxRecDepth 100000 in
set_option maxHeartbeats 4000000 in
theorem right_any (s : ByteArray) (w : World) (hT : Tabs w) :
    Calls Tryz.prog 133 #[.string s] w fun e w' => e = .returned (.bool (utfRight s)) ∧ Own [] w w' := by
  obtain ⟨ANS, hANS⟩ : ∃ ANS, utfRight s = ANS := ⟨_, rfl⟩
  rw [hANS]
  unfold utfRight at hANS
  by_cases h65 : 65535 < s.size
  · have h : (65535 : Int) < (s.size : Int) := by omega
    simp only [h65, decide_true, Bool.true_or, Bool.not_true, Bool.false_and] at hANS
    subst hANS
    clear h65
    go_enter Tryz.func133, Tryz.ntmps133
    go_wp2
    go_ret
    exact ⟨rfl, Own.refl _ _⟩
  · have h : ¬ (65535 : Int) < (s.size : Int) := by omega
    have cV : Calls Tryz.prog 169 #[.string s] w _ := Any.utf8_ValidString Tryz.laysValid s w (by omega) hT
    simp only [h65, decide_false, Bool.false_or, Bool.not_not] at hANS
    generalize Lib.validD s.data.toList = V at cV hANS
    clear h65
    cases V
    · rw [Bool.false_and] at hANS
      subst hANS
      replace cV := Lib.hid cV
      go_enter Tryz.func133, Tryz.ntmps133
      go_wp2_with (go_at_call 169; refine cV.out.mono ?_; rintro e w1 ⟨rfl, hb⟩)
      go_ret
      exact ⟨rfl, Own.of_below hb (Nat.le_refl _)⟩
    · rw [Bool.true_and] at hANS
      replace cV := Lib.hid cV
      replace hANS := Lib.hid hANS
      go_enter Tryz.func133, Tryz.ntmps133
      go_wp2_with (go_at_call 169; refine cV.out.mono ?_; rintro e w1 ⟨rfl, hb⟩)
      replace hb := Lib.hid hb
      go_loopg [4] (s.size + 1) (fun g _ wr => ∃ i : Nat, wr = w1.iter s i ∧ g = s.size + 1 - i ∧ Aside ((!(hasRune isNul s s.size i)) = ANS))
      case atStart => exact ⟨0, rfl, rfl, hANS.out⟩
      case round =>
        obtain ⟨i, rfl, hg, hA⟩ := hrel
        replace hA := hA.out
        by_cases hi : i < s.size
        · have hnx : ∀ ty, (Instr.next (.pointer (some ⟨w1.heap.size, 0, none⟩)) true ty).run Tryz.prog (w1.iter s i) = _ := fun ty => run_next_any w1 s i ty hi
          have hw := width_pos s i hi
          rw [hasRune_step isNul s i hi] at hA
          replace hw := Lib.hid hw
          replace hg := Lib.hid hg
          cases hc : isNul (Utf8.decode s i).1
          · have h0 : ((((Utf8.decode s i).1 : Nat) : Int) == 0) = false := by simp [isNul] at hc; simp; omega
            rw [hc, Bool.false_or] at hA
            replace hA := Lib.hid hA
            go_wp2
            go_roundg (s.size + 1 - (i + (Utf8.decode s i).2))
            case measure => have := hw.out; have := hg.out; omega
            case rel => exact ⟨_, rfl, rfl, hA.out⟩
          · rw [hc, Bool.true_or, Bool.not_true] at hA
            subst hA
            have h0 : ((((Utf8.decode s i).1 : Nat) : Int) == 0) = true := by simp [isNul] at hc; simp; omega
            go_wp2
            go_ret
            exact ⟨rfl, (Own.of_below hb.out (Nat.le_refl _)).alloc _⟩
        · have hnx : ∀ ty, (Instr.next (.pointer (some ⟨w1.heap.size, 0, none⟩)) true ty).run Tryz.prog (w1.iter s i) = _ := fun ty => run_next_end w1 s i ty hi
          rw [hasRune_end _ _ _ _ hi, Bool.not_false] at hA
          subst hA
          go_wp2
          go_ret
          exact ⟨rfl, (Own.of_below hb.out (Nat.le_refl _)).alloc _⟩

set_option maxRecDepth 100000 in
set_option maxHeartbeats 4000000 in
theorem sized_any (s : ByteArray) (w : World) (hT : Tabs w) :
    Calls Tryz.prog 96 #[.string s] w fun e w' => e = .returned (.bool (lvSized s)) ∧ Own [] w w' := by
  obtain ⟨ANS, hANS⟩ : ∃ ANS, lvSized s = ANS := ⟨_, rfl⟩
  rw [hANS]
  unfold lvSized at hANS
  cases h0 : s.toList.isEmpty
  · by_cases h96 : 96 < s.size
    · have h : (96 : Int) < (s.size : Int) := by omega
      simp only [h0, h96, decide_true, Bool.true_or, Bool.or_true, Bool.not_true, Bool.false_and] at hANS
      subst hANS
      clear h96
      go_enter Tryz.func96, Tryz.ntmps96
      go_wp2
      go_ret
      exact ⟨rfl, Own.refl _ _⟩
    · have h : ¬ (96 : Int) < (s.size : Int) := by omega
      have cR := right_any s w hT
      have cC : ∀ w', Calls Tryz.prog 53 #[.string s, .string ⟨#[47]⟩] w' _ := fun w' => Any.strings_Count_one Tryz.laysCount s 47 w'
      simp only [h0, h96, decide_false, Bool.false_or, Bool.not_not] at hANS
      generalize utfRight s = V at cR hANS
      generalize Lib.countByte s.data.toList 47 = C at cC hANS
      clear h96
      replace cR := Lib.hid cR
      replace cC := Lib.hid cC
      cases V
      · rw [Bool.false_and] at hANS
        subst hANS
        go_enter Tryz.func96, Tryz.ntmps96
        go_wp2_with (go_at_call 133; refine cR.out.mono ?_; rintro e w1 ⟨rfl, hb⟩)
        go_ret
        exact ⟨rfl, hb⟩
      · rw [Bool.true_and] at hANS
        have hC : decide ((C : Int) < 12) = ANS := by rw [← hANS]; congr 1; simp; omega
        replace hANS := Lib.hid hANS
        go_enter Tryz.func96, Tryz.ntmps96
        go_wp2_with (first | (go_at_call 133; refine cR.out.mono ?_; rintro e w1 ⟨rfl, hb⟩) | (go_at_call 53; refine (cC.out _).mono ?_; rintro e w2 ⟨rfl, rfl⟩))
        all_goals go_ret
        all_goals (refine ⟨?_, by first | exact hb | exact hb.drew⟩; simp_all)
  · simp only [h0, Bool.true_or, Bool.not_true, Bool.false_and] at hANS
    subst hANS
    go_enter Tryz.func96, Tryz.ntmps96
    go_wp2
    go_ret
    exact ⟨rfl, Own.refl _ _⟩

set_option maxRecDepth 100000 in
set_option maxHeartbeats 4000000 in
theorem name_any (s : ByteArray) (w : World) (hT : Tabs w) :
    Calls Tryz.prog 58 #[.string s] w fun e w' => e = .returned (.bool (lvName s)) ∧ Own [] w w' := by
  have cS := sized_any s w hT
  have cW : ∀ w', Calls Tryz.prog 97 #[.string s] w' _ := fun w' => wild_any s w'
  unfold lvName
  generalize lvSized s = V at cS ⊢
  generalize lvWild s = V' at cW ⊢
  replace cS := Lib.hid cS
  replace cW := Lib.hid cW
  go_enter Tryz.func58, Tryz.ntmps58
  cases V
  · go_wp2_with (go_at_call 96; refine cS.out.mono ?_; rintro e w1 ⟨rfl, hb⟩)
    go_ret
    exact ⟨rfl, hb⟩
  · go_wp2_with (first | (go_at_call 96; refine cS.out.mono ?_; rintro e w1 ⟨rfl, hb⟩) | (go_at_call 97; refine (cW.out _).mono ?_; rintro e w2 ⟨rfl, hb2⟩))
    go_ret
    exact ⟨rfl, hb.trans hb2⟩
end YtecociaolohfmaaGreatDoor
end Go.Proofs
