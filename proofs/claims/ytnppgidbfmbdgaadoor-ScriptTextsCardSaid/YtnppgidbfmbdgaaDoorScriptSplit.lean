/- Scripts (chapter 40): texts cut at a byte, of both. -/
import Derived.Test.YtnppgidbfmbdgaaDoorScriptSpl
import Derived.Test.YtnppgidbfmbdgaaDoorNew
import Derived.Test.YtnppgidbfmbdgaaDoorShelf
import Derived.Shelf.Strings.Split
import Derived.Deep.LoopGhost
set_option linter.unusedSimpArgs false
set_option linter.unusedVariables false
namespace Go.Proofs.YtnppgidbfmbdgaaDoor
open Go.RowKit

def wEnc (x : ByteArray) : List Value := [.string x]
theorem wEnc_len (x : ByteArray) : (wEnc x).length = 1 := rfl
theorem wInfo : (Tryd.prog.info? 9).map (fun i => (i.zero, i.size, i.bytes)) = some (some (.string ⟨#[]⟩), 1, 16) := by kernel_rfl
theorem wElem : Elem Tryd.prog 48 9 wEnc 1 16 where
  ut := Tryd.underlying48
  info := by obtain ⟨i, h1, h2, h3, h4⟩ := info_parts wInfo; exact ⟨i, _, h1, h2, h3, h4, rfl⟩
  pos := by omega
  len := wEnc_len
  one x u hu := by simp [wEnc] at hu; subst hu; rfl
theorem rowOf_w (l : List ByteArray) : rowOf wEnc l = l.map Value.string := by
  induction l with
  | nil => rfl
  | cons x r ih => unfold rowOf at *; rw [List.flatMap_cons, ih]; rfl
/-- The library's variable that Split reads: some int. -/
def MaxCell (w : World) : Prop := ∃ m, w.cell? ⟨Tryd.laysSplit_ren.g 1, 0, none⟩ = some (.int .i64 m)
theorem MaxCell.own {w w' : World} (h : MaxCell w) (ho : Own [] w w') : MaxCell w' :=
  let ⟨m, hm⟩ := h; ⟨m, (ho.cell (block_lt_of_cell hm) (by simp)).trans hm⟩
def SplP (w : World) (l : List ByteArray) (e : Ending) (w' : World) : Prop :=
  ∃ v, e = .returned v ∧ Sl 9 wEnc 1 w.heap.size w' v l ∧ Own [] w w'
theorem psplit_any (s : ByteArray) (c : UInt8) (w : World) (hs : s.size ≤ 1000000) (hm : MaxCell w) :
    Calls Tryd.prog 22 #[.string s, .string ⟨#[c]⟩] w (SplP w (splB c s)) := by
  obtain ⟨m, hm⟩ := hm
  refine (Any.strings_Split Tryd.laysSplit wInfo s ⟨#[c]⟩ m w (by omega) hm (Nat.le_refl 1)).mono ?_
  rintro e w' ⟨rfl, rfl⟩
  rw [splitB_eq c _ s (Nat.le_refl _), countB_spl]
  refine ⟨_, rfl, ?_, (Own.refl _ _).alloc _⟩
  refine Sl.of_row ⟨_, heap_alloc_new _ _, Nat.le_refl _, by have := splB_len c s; unfold maxLen; omega, by simp, ?_⟩ wEnc_len (Nat.le_refl _)
  rw [rowOf_w]
  simp [List.take_of_length_le]
/-- A part that is left. -/
theorem splB_step {c : UInt8} {s : ByteArray} {a i : Nat} (ha : a ≤ i) (hi : i < s.size) (hc : s.get! i = c) (h : ∀ j, a ≤ j → j < i → s.get! j ≠ c) :
    splB c (s.extract a s.size) = s.extract a i :: splB c (s.extract (i + 1) s.size) := by
  have hz : (s.extract a s.size).size = s.size - a := by rw [Lib.size_eq, Lib.extract_to_end, List.length_drop, ← Lib.size_eq]
  have hg : ∀ j, a ≤ j → j < s.size → (s.extract a s.size).get! (j - a) = s.get! j := fun j h1 h2 => by
    rw [get_at _ _ (by omega), get_at _ _ h2]
    have e1 : (s.extract a s.size).data.toList[j - a]? = s.data.toList[j]? := by rw [Lib.extract_to_end, List.getElem?_drop]; congr 1; omega
    rw [List.getElem?_eq_getElem (by rw [← Lib.size_eq]; omega), List.getElem?_eq_getElem (by rw [← Lib.size_eq]; omega)] at e1
    exact Option.some.inj e1
  have hn : c ∉ (s.extract a s.size).data.toList.take (i - a) := by
    intro hm
    obtain ⟨j, hj, he⟩ := List.getElem_of_mem hm
    have hj2 : j < i - a := by rw [List.length_take] at hj; omega
    rw [List.getElem_take] at he
    have := hg (a + j) (by omega) (by omega)
    rw [show a + j - a = j by omega, get_at _ _ (by omega)] at this
    exact h (a + j) (by omega) (by omega) (by rw [← this]; exact he)
  rw [splB_cut (i := i - a) (by omega) (by rw [hg i ha hi]; exact hc) hn, hz]
  congr 1
  · apply ByteArray.ext
    apply Array.ext'
    rw [Lib.extract_from_zero, Lib.extract_to_end, Lib.extract_data]
  · congr 1
    apply ByteArray.ext
    apply Array.ext'
    rw [Lib.extract_to_end, ← hz, Lib.extract_to_end, Lib.extract_to_end, List.drop_drop]
    congr 1
    omega
theorem splB_last {c : UInt8} {s : ByteArray} {a : Nat} (ha : a ≤ s.size) (h : ∀ j, a ≤ j → j < s.size → s.get! j ≠ c) : splB c (s.extract a s.size) = [s.extract a s.size] := by
  refine splB_no ?_
  rw [Lib.extract_to_end]
  intro hm
  obtain ⟨j, hj, he⟩ := List.getElem_of_mem hm
  rw [List.getElem_drop] at he
  rw [List.length_drop, ← Lib.size_eq] at hj
  exact h (a + j) (by omega) (by omega) (by rw [get_at _ _ (by omega)]; exact he)
set_option maxRecDepth 100000 in
set_option maxHeartbeats 4000000 in
theorem rsplit_any (s : ByteArray) (c : UInt8) (w : World) (hs : s.size ≤ 1000000) :
    Calls Tryd.prog 24 #[.string s, .int .u8 c.toNat] w (SplP w (splB c s)) := by
  have hst : splB c (s.extract 0 s.size) = splB c s := by congr 1; apply ByteArray.ext; apply Array.ext'; rw [Lib.extract_to_end]; rfl
  generalize splB c s = ans at hst ⊢
  replace hst := Lib.hid hst
  go_enter Tryd.func24, Tryd.ntmps24
  go_wp2_with fail
  go_loopg [5, 6, 7] (s.size + 1) (fun g s3 s4 s5 wr => ∃ (a i : Nat) (T : List ByteArray), s4 = .int .i64 a ∧ s5 = .int .i64 i ∧ g = s.size + 1 - i ∧ a ≤ i ∧ i ≤ s.size ∧ T.length ≤ i ∧ Sl 9 wEnc 1 w.heap.size wr s3 T ∧ Own [] w wr ∧ Aside (T ++ splB c (s.extract a s.size) = ans ∧ ∀ j, a ≤ j → j < i → s.get! j ≠ c))
  case atStart => exact ⟨0, 0, [], rfl, rfl, rfl, Nat.le_refl _, Nat.zero_le _, Nat.le_refl _, Sl.nil _ _ _, Own.refl _ _, by rw [List.nil_append]; exact hst.out, fun j h1 h2 => by omega⟩
  case round =>
    obtain ⟨a, i, T, rfl, rfl, hg, ha, hi, hT, hS, hO, hA1, hA2⟩ := hrel
    obtain ⟨a1, c1, hva⟩ := hS.sl
    subst hva
    have hw1 : IntKind.i64.wrap ((i : Int) + 1) = (i : Int) + 1 := IntWalk.i64_in _ (by omega)
    have ha1 : (a : Int) ≤ i := by omega
    have ha2 : (i : Int) ≤ s.size := by omega
    by_cases hlt : i < s.size
    · have h1 : (i : Int) < s.size := by omega
      have h0 : (0 : Int) ≤ i := by omega
      by_cases hc : s.get! i = c
      · have hT2 : (T ++ [s.extract a i]) ++ splB c (s.extract (i + 1) s.size) = ans := by rw [← hA1, splB_step ha hlt hc hA2]; simp
        have h47 : (((s[i]'hlt).toNat : Int) == (c.toNat : Int)) = true := by rw [← get_at s i hlt, hc]; simp
        have h48 : (s[i]'hlt).toNat = c.toNat := by rw [← get_at s i hlt, hc]
        have hOb := hO.alloc (.cells #[.string (s.extract a i)] 9)
        have hSb : Sl 9 wEnc 1 w.heap.size (wr.alloc (.cells #[.string (s.extract a i)] 9)) (.slice a1 T.length c1) T := hS.nil' ((Own.refl [] wr).alloc _)
        have hRb := Reads.new (enc := wEnc) (T := 9) wr (s.extract a i) 1
        replace hOb := Lib.hid hOb
        replace hSb := Lib.hid hSb
        replace hRb := Lib.hid hRb
        replace hT2 := Lib.hid hT2
        replace hg := Lib.hid hg
        clear hA1 hA2 hS hO hc
        go_wp2_with (at_builtin; refine wpList_append_new rfl (.tmp 19) (.tmp 24) rfl wElem hOb.out rfl hSb.out rfl hRb.out (by simp only [List.length_singleton]; omega) (by unfold maxLen; simp only [List.length_singleton]; omega) ?_; intro va2 w5 hS5 hO5 _ _; obtain ⟨a2, c2, rfl⟩ := hS5.sl; rw [List.length_append, List.length_singleton] at hS5; replace hS5 := Lib.hid hS5; replace hO5 := Lib.hid hO5)
        go_roundg (s.size + 1 - (i + 1))
        case measure => have := hg.out; omega
        case rel => exact ⟨i + 1, i + 1, T ++ [s.extract a i], by simp, by simp, rfl, Nat.le_refl _, by omega, by simp; omega, hS5.out, hO5.out, hT2.out, fun j h1 h2 => by omega⟩
      · have h48 : ¬ (s[i]'hlt).toNat = c.toNat := by
          rw [← get_at s i hlt]
          intro e
          exact hc (UInt8.toNat_inj.1 e)
        have h47b : (((s[i]'hlt).toNat : Int) == (c.toNat : Int)) = false := by simp; omega
        have hA3 : ∀ j, a ≤ j → j < i + 1 → s.get! j ≠ c := fun j h1 h2 => by
          by_cases hj : j < i
          · exact hA2 j h1 hj
          · obtain rfl : j = i := by omega
            exact hc
        have hA4 := Lib.hid (And.intro hA1 hA3)
        replace hS := Lib.hid hS
        replace hO := Lib.hid hO
        replace hg := Lib.hid hg
        clear hA1 hA2 hA3
        go_wp2_with fail
        go_roundg (s.size + 1 - (i + 1))
        case measure => have := hg.out; omega
        case rel => exact ⟨a, i + 1, T, rfl, by simp, rfl, by omega, by omega, by omega, hS.out, hO.out, hA4.out⟩
    · obtain rfl : i = s.size := by omega
      have h1 : ¬ ((s.size : Nat) : Int) < s.size := by omega
      have hT2 : T ++ [s.extract a s.size] = ans := by rw [← hA1, splB_last ha hA2]
      have hOb := hO.alloc (.cells #[.string (s.extract a s.size)] 9)
      have hSb : Sl 9 wEnc 1 w.heap.size (wr.alloc (.cells #[.string (s.extract a s.size)] 9)) (.slice a1 T.length c1) T := hS.nil' ((Own.refl [] wr).alloc _)
      have hRb := Reads.new (enc := wEnc) (T := 9) wr (s.extract a s.size) 1
      replace hOb := Lib.hid hOb
      replace hSb := Lib.hid hSb
      replace hRb := Lib.hid hRb
      replace hT2 := Lib.hid hT2
      replace hg := Lib.hid hg
      clear hA1 hA2 hS hO
      go_wp2_with (at_builtin; refine wpList_append_new rfl (.tmp 28) (.tmp 32) rfl wElem hOb.out rfl hSb.out rfl hRb.out (by simp only [List.length_singleton]; omega) (by unfold maxLen; simp only [List.length_singleton]; omega) ?_; intro va2 w5 hS5 hO5 _ _; rw [hT2.out] at hS5; have F := Lib.hid (And.intro hS5 hO5); clear hS5 hO5)
      go_ret
      exact ⟨_, rfl, F.out⟩
end Go.Proofs.YtnppgidbfmbdgaaDoor
