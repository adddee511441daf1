/- ScriptLines: an event's line, a line's event, bytes as a word: the document's. -/
import Derived.Test.YtnppgidbfmbdgaaDoorScriptBack
import Derived.Test.YtnppgidbfmbdgaaDoorScriptRPrint
import Derived.Test.YtnppgidbfmbdgaaDoorScriptRParse
set_option linter.unusedSimpArgs false
set_option linter.unusedVariables false
namespace Go.Proofs.YtnppgidbfmbdgaaDoor
open Go.RowKit

set_option maxRecDepth 100000 in
set_option maxHeartbeats 4000000 in
theorem scriptLines_own (k c n : Int) (d line : ByteArray) (w : World) (hl : line.size ≤ 1048576) (hT : Pow10 w) (hm : MaxCell w) :
    Calls Tryd.prog 3 #[.agg #[.int .i64 k, .int .i64 c, .int .i64 n, .string d], .string line] w fun e w' => e = .returned (.bool true) ∧ Own [] w w' := by
  have hO1 : Own [] w (w.alloc (.cells #[.int .i64 k, .int .i64 c, .int .i64 n, .string d] 23)) := (Own.refl _ _).alloc _
  have hbk := Lib.hid (heap_alloc_new w (.cells #[.int .i64 k, .int .i64 c, .int .i64 n, .string d] 23))
  obtain ⟨⟨⟨y1, y2, y3, y4⟩, z⟩, hy⟩ : ∃ r, scParse line = r := ⟨_, rfl⟩
  obtain ⟨⟨s, f⟩, hs⟩ : ∃ r, scPrint k c n d = r := ⟨_, rfl⟩
  have cPa := Lib.hid (fun W h => parse_any line W h)
  have cPr := Lib.hid (fun W h => print_any k c n d W h)
  have cRa := Lib.hid (fun W => rparse_any line W)
  have cRr := Lib.hid (fun W => rprint_any k c n d W)
  have cB := Lib.hid (fun W => bytes_any line (by omega) W)
  have cRB := Lib.hid (fun W => rbytes_any line (by omega) W)
  replace hy := Lib.hid hy
  replace hs := Lib.hid hs
  replace hO1 := Lib.hid hO1
  clear hl
  go_enter Tryd.func3, Tryd.ntmps3
  go_wp2_with fail
  with_reducible refine (cPr.out _ (by exact pow10_own hT hO1.out)).mono ?_
  rintro e w2 ⟨hP, hO2⟩
  obtain rfl := printP_is hP hs.out
  have hb2 := hO2.heap hbk.out (by simp)
  obtain ⟨f0, f1, f2, f3⟩ := blk4 hb2
  replace hb2 := Lib.hid hb2
  replace hO2 := Lib.hid (hO1.out.trans hO2)
  clear hP
  go_wp2_with fail
  with_reducible refine (cRr.out _).mono ?_
  rintro e w3 ⟨hP, hO3⟩
  obtain rfl := printP_is hP hs.out
  replace hO3 := Lib.hid (hO2.out.trans hO3)
  clear hP
  go_wp2_with fail
  with_reducible refine (cPa.out _ (by exact hm.own hO3.out)).mono ?_
  rintro e w4 ⟨hP, hO4⟩
  obtain rfl := parseP_is hP hy.out
  clear hP
  have hx := Lib.hid (heap_alloc_new w4 (.cells #[.int .i64 y1, .int .i64 y2, .int .i64 y3, .string y4] 23))
  replace hO4 := Lib.hid ((hO3.out.trans hO4).alloc (.cells #[.int .i64 y1, .int .i64 y2, .int .i64 y3, .string y4] 23))
  go_wp2_with fail
  with_reducible refine (cRa.out _).mono ?_
  rintro e w5 ⟨hP, hO5⟩
  obtain rfl := parseP_is hP hy.out
  clear hP
  have hx5 := hO5.heap hx.out (by simp)
  obtain ⟨p0, p1, p2, p3⟩ := blk4 hx5
  have z4 := lt_of_heap hx5
  replace hO5 := Lib.hid ((hO4.out.trans hO5).alloc (.cells #[.int .i64 y1, .int .i64 y2, .int .i64 y3, .string y4] 23))
  replace hx5 := Lib.hid hx5
  go_wp2_with fail
  with_reducible refine (cB.out _).mono ?_
  rintro e w6 ⟨rfl, hO6⟩
  replace hO6 := Lib.hid (hO5.out.trans hO6)
  go_wp2_with fail
  with_reducible refine (cRB.out _).mono ?_
  rintro e w7 ⟨rfl, hO7⟩
  replace hO7 := Lib.hid (hO6.out.trans hO7)
  go_wp2_with fail
  with_reducible refine (awake_any _ (by exact hm.own hO7.out)).mono ?_
  rintro e w8 ⟨rfl, hO8⟩
  replace hO8 := Lib.hid (hO7.out.trans hO8)
  go_wp2_with fail
  go_ret
  exact ⟨rfl, hO8.out⟩
theorem scriptLines_walk (e : Ev) (line : ByteArray) (w : World) (hl : line.size ≤ 1048576) (h : Pow10 w ∧ MaxCell w) :
    Calls Tryd.prog 3 #[.agg #[.int .i64 e.k, .int .i64 e.c, .int .i64 e.n, .string e.d], .string line] w fun e w' => e = .returned (.bool true) ∧ Below w.heap.size w w' :=
  (scriptLines_own e.k e.c e.n e.d line w hl h.1 h.2).mono fun _ _ ⟨a, b⟩ => ⟨a, b.below (Nat.le_refl _) (by simp)⟩
end Go.Proofs.YtnppgidbfmbdgaaDoor
