/- ScriptTexts: any events as a text, any text as events, or which line is none: the document's. -/
import Derived.Test.YtnppgidbfmbdgaaDoorScriptRaAll
import Derived.Test.YtnppgidbfmbdgaaDoorScriptPAll
import Derived.Test.YtnppgidbfmbdgaaDoorScriptRAll
set_option linter.unusedSimpArgs false
set_option linter.unusedVariables false
namespace Go.Proofs.YtnppgidbfmbdgaaDoor
open Go.RowKit

theorem scan_len : ∀ (L : List ByteArray) (i : Nat) (acc : List Ev), (scScan L i acc).1.length ≤ L.length + acc.length
  | [], i, acc => by simp [scScan]
  | s :: r, i, acc => by
    unfold scScan
    split
    · simp
    · have := scan_len r (i + 1) (acc ++ [(scParse s).1])
      simp at this ⊢
      omega
theorem parseAll_len (s : ByteArray) : (scParseAll s).1.length ≤ 512 := by
  unfold scParseAll
  split
  · simp
  · split
    · simp
    · have := scan_len (rowsOf s) 0 []
      simp at this
      omega
set_option maxRecDepth 100000 in
set_option maxHeartbeats 4000000 in
theorem scriptTexts_own (a : Option Addr) (ca : Nat) (L : List Ev) (text : ByteArray) (w : World) (hA : EvsAt w a L) (hT : Pow10 w) (hm : MaxCell w) :
    Calls Tryd.prog 5 #[.slice a L.length ca, .string text] w fun e w' => e = .returned (.bool true) ∧ Own [] w w' := by
  obtain ⟨⟨T, n, z⟩, hy⟩ : ∃ r, scParseAll text = r := ⟨_, rfl⟩
  obtain ⟨⟨s, f⟩, hs⟩ : ∃ r, scPrintAll L = r := ⟨_, rfl⟩
  have hTl : T.length ≤ 512 := by have := parseAll_len text; rw [hy] at this; exact this
  have cPa := Lib.hid (fun W h => parseAll_any text W h)
  have cPr := Lib.hid (fun W h h2 => printAll_any a ca L W h h2)
  have cRa := Lib.hid (fun W => rparseAll_any text W)
  have cRr := Lib.hid (fun W h => rprintAll_any a ca L W h)
  rw [hy] at cPa cRa
  rw [hs] at cPr cRr
  replace hy := Lib.hid hy
  replace hs := Lib.hid hs
  replace hA := Lib.hid hA
  go_enter Tryd.func5, Tryd.ntmps5
  go_wp2_with fail
  with_reducible refine (cPr.out _ (by exact hA.out) (by exact hT)).mono ?_
  rintro e w2 ⟨hP, hO2⟩
  obtain rfl := printP_is hP rfl
  replace hO2 := Lib.hid hO2
  clear hP
  go_wp2_with fail
  with_reducible refine (cRr.out _ (by exact hA.out.own hO2.out)).mono ?_
  rintro e w3 ⟨hP, hO3⟩
  obtain rfl := printP_is hP rfl
  replace hO3 := Lib.hid (hO2.out.trans hO3)
  clear hP
  go_wp2_with fail
  with_reducible refine (cPa.out _ (by exact hm.own hO3.out)).mono ?_
  rintro e w4 ⟨⟨v, rfl, hS⟩, hO4⟩
  replace hO4 := Lib.hid (hO3.out.trans hO4)
  replace hS := Lib.hid hS
  go_wp2_with fail
  with_reducible refine (cRa.out _).mono ?_
  rintro e w5 ⟨⟨v2, rfl, hS2⟩, hO5⟩
  have hS1 := hS.out.nil' hO5
  obtain ⟨av, cv, rfl⟩ := hS1.sl
  obtain ⟨av2, cv2, rfl⟩ := hS2.sl
  have cM := Lib.hid (same_any av av2 cv cv2 T w5 (hS1.evs (Nat.le_trans hTl (by omega))) (hS2.evs (Nat.le_trans hTl (by omega))))
  replace hO5 := Lib.hid (hO4.out.trans hO5)
  clear hS hS1 hS2
  go_wp2_with fail
  with_reducible refine cM.out.mono ?_
  rintro e w6 ⟨rfl, hO6⟩
  replace hO6 := Lib.hid (hO5.out.trans hO6)
  go_wp2_with fail
  with_reducible refine (awake_any _ (by exact hm.own hO6.out)).mono ?_
  rintro e w8 ⟨rfl, hO8⟩
  replace hO8 := Lib.hid (hO6.out.trans hO8)
  go_wp2_with fail
  go_ret
  exact ⟨rfl, hO8.out⟩
theorem scriptTexts_walk (a : Option Addr) (L : List Ev) (ca : Nat) (text : ByteArray) (w : World) (hA : EvsAt w a L) (hl : text.size ≤ 140737488351232) (h : Pow10 w ∧ MaxCell w) :
    Calls Tryd.prog 5 #[.slice a L.length ca, .string text] w fun e w' => e = .returned (.bool true) ∧ Below w.heap.size w w' :=
  (scriptTexts_own a ca L text w hA h.1 h.2).mono fun _ _ ⟨a, b⟩ => ⟨a, b.below (Nat.le_refl _) (by simp)⟩
end Go.Proofs.YtnppgidbfmbdgaaDoor
