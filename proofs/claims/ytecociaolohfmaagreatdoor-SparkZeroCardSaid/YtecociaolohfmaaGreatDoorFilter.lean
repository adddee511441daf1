/- Package level: Filter, Hidden. -/
import Derived.Test.YtecociaolohfmaaGreatDoorSplit
import Derived.Deep.QuietTactic
import Derived.BigQuiet
import Derived.StillTailTactics
namespace Go.Proofs.YtecociaolohfmaaGreatDoor
open Go.RowKit Go.Lib Go.Shelf

/-! ### plain -/
/-- May a level of a filter stand there? -/
def lvOk (last : Bool) (x : ByteArray) : Bool := (x == plusB || !(lvWild x)) || (x == hashB && last)
def lvFilter (s : ByteArray) : Bool := lvSized s && (levels s).zipIdx.all fun p => lvOk (p.2 + 1 == (levels s).length) p.1
def lvHidden (s : ByteArray) : Bool := s.toList.head? == some 36

theorem lvSized_pos {s : ByteArray} (h : lvSized s = true) : 0 < s.size ∧ s.size ≤ 96 := by
  unfold lvSized at h
  simp only [Bool.and_eq_true, Bool.not_eq_true', Bool.or_eq_false_iff, decide_eq_false_iff_not] at h
  obtain ⟨⟨⟨h1, h2⟩, _⟩, _⟩ := h
  refine ⟨?_, by omega⟩
  rcases Nat.eq_zero_or_pos s.size with h0 | h0
  · rw [← size_toList] at h0
    rw [List.eq_nil_of_length_eq_zero h0] at h1
    simp at h1
  · exact h0
theorem levels_len (s : ByteArray) : (levels s).length ≤ s.size + 1 := by
  have : ∀ l : List UInt8, (cutL l).length ≤ l.length + 1 := by
    intro l
    induction l with
    | nil => simp [cutL]
    | cons c r ih =>
      rw [cutL_cons]
      split
      · simp; omega
      · split
        · rename_i y t he
          rw [he] at ih
          simp at ih ⊢; omega
        · simp
  unfold levels
  rw [List.length_map, ← size_toList]
  exact this _

theorem head_ext {s : ByteArray} (h : 0 < s.size) (c : UInt8) : ((s.extract 0 1).toList == [c]) = (s.toList.head? == some c) := by
  have hx : (s.extract 0 1).toList = [s.get! 0] := by
    rw [ext_to]
    have := get_toList s 0 h
    cases hl : s.toList with
    | nil => rw [hl] at this; simp at this
    | cons c r => rw [hl] at this; simp at this; simp [this]
  have hh : s.toList.head? = some (s.get! 0) := by rw [List.head?_eq_getElem?]; exact get_toList s 0 h
  rw [hh, hx]
  simp
set_option maxRecDepth 100000 in
set_option maxHeartbeats 1000000 in
theorem hidden_any (s : ByteArray) (w : World) (h0 : 0 < s.size) : Calls Tryz.prog 127 #[.string s] w fun e w' => e = .returned (.bool (lvHidden s)) ∧ w = w' := by
  unfold lvHidden
  have hge : (1 : Int) ≤ s.size := by omega
  have hb := head_ext h0 36
  generalize (s.toList.head? == some (36 : UInt8)) = bb at hb ⊢
  go_enter Tryz.func127, Tryz.ntmps127
  go_wp2_with go_in
  go_ret
  exact ⟨rfl, rfl⟩

theorem plus_list : plusB.toList = [43] := by rw [Lib.toList_data]; rfl
theorem hash_list : hashB.toList = [35] := by rw [Lib.toList_data]; rfl
theorem eq_toList (x y : ByteArray) : (x == y) = (x.toList == y.toList) := beq_toListBytes x y

/-- The levels from a place on may stand there. -/
def okFrom (L : List ByteArray) (i : Nat) : Bool := ((L.drop i).zipIdx i).all fun p => lvOk (p.2 + 1 == L.length) p.1
theorem okFrom_end {L : List ByteArray} {i : Nat} (h : L.length ≤ i) : okFrom L i = true := by
  unfold okFrom; rw [List.drop_eq_nil_of_le h]; rfl
theorem okFrom_step {L : List ByteArray} {i : Nat} {x : ByteArray} (h : L[i]? = some x) : okFrom L i = (lvOk (i + 1 == L.length) x && okFrom L (i + 1)) := by
  obtain ⟨hi, hx⟩ := List.getElem?_eq_some_iff.1 h
  unfold okFrom
  rw [List.drop_eq_getElem_cons hi, hx, List.zipIdx_cons, List.all_cons]
theorem lvFilter_eq (s : ByteArray) : lvFilter s = (lvSized s && okFrom (levels s) 0) := by
  unfold lvFilter okFrom; rw [List.drop_zero]

set_option maxRecDepth 100000 in
set_option maxHeartbeats 4000000 in
theorem filter_any (s : ByteArray) (w : World) (hT : Tabs w) :
    Calls Tryz.prog 85 #[.string s] w fun e w' => e = .returned (.bool (lvFilter s)) ∧ Own [] w w' := by
  rw [lvFilter_eq]
  have cS := sized_any s w hT
  have hp := fun h => lvSized_pos (s := s) h
  generalize hV : lvSized s = V at cS hp ⊢
  replace cS := Lib.hid cS
  cases V
  · rw [Bool.false_and]
    go_enter Tryz.func85, Tryz.ntmps85
    go_wp2_with (go_at_call 96; refine cS.out.mono ?_; rintro e w1 ⟨rfl, hb⟩)
    go_ret
    exact ⟨rfl, hb⟩
  · rw [Bool.true_and]
    have hs := (hp rfl).2
    have hL : (levels s).length ≤ 100 := by have := levels_len s; omega
    have cW := Lib.hid (fun x W => wild_any x W)
    have cP := Lib.hid (fun W => split_any s W (by omega))
    clear hp hV hs
    generalize hans : okFrom (levels s) 0 = ans at ⊢
    generalize hLe : levels s = L at hans hL
    replace hLe := Lib.hid hLe
    replace hans := Lib.hid hans
    go_enter Tryz.func85, Tryz.ntmps85
    go_wp2_with (first
      | (go_at_call 96; refine cS.out.mono ?_; rintro e w1 ⟨rfl, hb⟩; replace hb := Lib.hid hb)
      | (go_at_call 24; refine (cP.out w1).mono ?_; rintro e w2 ⟨v, rfl, hSl, hb2⟩; rw [hLe.out] at hSl; have hR := hSl.reads lEnc_len; obtain ⟨aa, ca, rfl⟩ := hR.form; replace hb2 := Lib.hid (hb.out.trans hb2); clear hSl))
    have hb3 : Own [] w2 w2 := Own.refl _ _
    go_loopg [13] (L.length + 1) (fun g s13 wr => ∃ i : Nat, s13 = .int .i64 i ∧ g = L.length + 1 - i ∧ i ≤ L.length ∧ Own [] w2 wr ∧ Aside (okFrom L i = ans))
    case atStart => exact ⟨0, rfl, rfl, Nat.zero_le _, hb3, hans.out⟩
    case round =>
      obtain ⟨i, rfl, hg, hi, hO, hA⟩ := hrel
      replace hA := hA.out
      replace hO := Lib.hid hO
      by_cases hlt : i < L.length
      · obtain ⟨x, hx⟩ : ∃ x, L[i]? = some x := ⟨_, List.getElem?_eq_getElem hlt⟩
        rw [okFrom_step hx] at hA
        obtain ⟨b0, o0, rfl, hca⟩ := (hR.nil' hO.out).at_ lEnc_len (by omega)
        have hxc : wr.cell? ⟨b0, o0 + i, none⟩ = some (.string x) := by simpa using hca i x 0 _ hx rfl
        clear hca
        have h1 : (x == plusB) = (x.toList == [43]) := by rw [eq_toList, plus_list]
        have h2 : (x == hashB) = (x.toList == [35]) := by rw [eq_toList, hash_list]
        have hlt2 : (i : Int) < L.length := by omega
        have hi0 : (0 : Int) ≤ i := by omega
        have hw1 : IntKind.i64.wrap ((i : Int) + 1) = (i : Int) + 1 := IntWalk.i64_in _ (by omega)
        have hw2 : IntKind.i64.wrap ((L.length : Int) - 1) = (L.length : Int) - 1 := IntWalk.i64_in _ (by omega)
        replace hg := Lib.hid hg
        unfold lvOk at hA
        rw [h1, h2] at hA
        clear h1 h2
        cases hq : (x.toList == [43])
        · rw [hq, Bool.false_or] at hA
          have cW2 := fun W => cW.out x W
          generalize lvWild x = wi at hA cW2
          cases wi
          · rw [Bool.not_false, Bool.true_or, Bool.true_and] at hA
            replace hA := Lib.hid hA
            replace cW2 := Lib.hid cW2
            go_wp2_with (go_at_call 97; refine (cW2.out _).mono ?_; rintro e w3 ⟨rfl, hb3⟩; replace hb3 := Lib.hid hb3)
            go_roundg (L.length + 1 - (i + 1))
            case measure => have := hg.out; omega
            case rel => exact ⟨i + 1, by simp, rfl, by omega, hO.out.trans hb3.out, hA.out⟩
          · rw [Bool.not_true, Bool.false_or] at hA
            replace cW2 := Lib.hid cW2
            cases hh : (x.toList == [35])
            · rw [hh, Bool.false_and, Bool.false_and] at hA
              replace hA := Lib.hid hA
              go_wp2_with (go_at_call 97; refine (cW2.out _).mono ?_; rintro e w3 ⟨rfl, hb3⟩; replace hb3 := Lib.hid hb3)
              go_ret
              exact ⟨by rw [← hA.out]; rfl, hb2.out.trans (hO.out.trans hb3.out)⟩
            · rw [hh, Bool.true_and] at hA
              by_cases hl : i + 1 = L.length
              · have hl2 : ((i : Int) == (L.length : Int) - 1) = true := by simp; omega
                have hl3 : (i + 1 == L.length) = true := by simp; omega
                rw [hl3, Bool.true_and] at hA
                replace hA := Lib.hid hA
                replace hl := Lib.hid hl
                clear hl3
                go_wp2_with (go_at_call 97; refine (cW2.out _).mono ?_; rintro e w3 ⟨rfl, hb3⟩; replace hb3 := Lib.hid hb3)
                go_roundg (L.length + 1 - (i + 1))
                case measure => have := hg.out; omega
                case rel => exact ⟨i + 1, by simp, rfl, by omega, hO.out.trans hb3.out, hA.out⟩
              · have hl2 : ((i : Int) == (L.length : Int) - 1) = false := by simp; omega
                have hl3 : (i + 1 == L.length) = false := by simp; omega
                rw [hl3, Bool.false_and] at hA
                replace hA := Lib.hid hA
                replace hl := Lib.hid hl
                clear hl3
                go_wp2_with (go_at_call 97; refine (cW2.out _).mono ?_; rintro e w3 ⟨rfl, hb3⟩; replace hb3 := Lib.hid hb3)
                go_ret
                exact ⟨by rw [← hA.out]; rfl, hb2.out.trans (hO.out.trans hb3.out)⟩
        · rw [hq, Bool.true_or, Bool.true_or, Bool.true_and] at hA
          replace hA := Lib.hid hA
          go_wp2_with fail
          go_roundg (L.length + 1 - (i + 1))
          case measure => have := hg.out; omega
          case rel => exact ⟨i + 1, by simp, rfl, by omega, hO.out, hA.out⟩
      · have hlt2 : ¬ (i : Int) < L.length := by omega
        rw [okFrom_end (by omega)] at hA
        replace hA := Lib.hid hA
        replace hg := Lib.hid hg
        go_wp2_with fail
        go_ret
        exact ⟨by rw [← hA.out]; rfl, hb2.out.trans hO.out⟩
end Go.Proofs.YtecociaolohfmaaGreatDoor
