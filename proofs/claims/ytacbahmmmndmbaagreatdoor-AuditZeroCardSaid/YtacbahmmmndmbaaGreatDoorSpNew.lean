/- Spark (chapter 37): one that was just made. -/
import Derived.Test.YtacbahmmmndmbaaGreatDoorProg
import Derived.Test.YtacbahmmmndmbaaGreatDoorBase
import Derived.Test.YtacbahmmmndmbaaGreatDoorMaps
set_option linter.unusedSimpArgs false
set_option linter.unusedVariables false
namespace Go.Proofs.YtacbahmmmndmbaaGreatDoor
open Go.RowKit

/-- A node's key. -/
def keyEnc (k : ByteArray × ByteArray) : Value := .agg #[.string k.1, .string k.2]
abbrev Ptr (b : Nat) : Value := .pointer (some ⟨b, 0, none⟩)
abbrev emptyS : Value := .string ⟨#[]⟩
theorem birthsNew (W : World) : Calls Tryz.prog 96 #[] W fun e w' => ∃ s, e = .returned (Ptr s) ∧ w'.heap[s]? = some (.cells #[.slice none 0 0, .bool true] 301 (0, 0)) ∧ Own [] W w' := by
  go_enter Tryz.func96, Tryz.ntmps96
  go_wp2_with fail
  go_ret
  exact ⟨_, rfl, heap_alloc_new _ _, (Own.refl _ _).alloc _⟩
theorem rateNew (W : World) : Calls Tryz.prog 94 #[.int .i64 10] W fun e w' => ∃ s, e = .returned (.tuple #[Ptr s, .int .i64 0]) ∧ w'.heap[s]? = some (.cells #[.int .i64 10, .slice none 0 0, .bool true] 298 (0, 0)) ∧ Own [] W w' := by
  go_enter Tryz.func94, Tryz.ntmps94
  go_wp2_with (go_in)
  go_ret2
  exact ⟨_, rfl, heap_alloc_new _ _, (Own.refl _ _).alloc _⟩
/-- Hosts: none. -/
def HostNone (w : World) (h hm : Nat) : Prop := w.heap[h]? = some (.cells #[emptyS, .bool false, emptyS, .bool false, emptyS, .bool false, emptyS, .bool false, .map (some hm)] 285 (0, 0)) ∧ MapS Value.string w hm []
theorem HostNone.own {w w' : World} {h hm : Nat} (H : HostNone w h hm) (ho : Own [] w w') : HostNone w' h hm := ⟨ho.heap H.1 (by simp), H.2.own ho (by simp)⟩
theorem hostNew (W : World) : Calls Tryz.prog 95 #[] W fun e w' => ∃ s m, e = .returned (Ptr s) ∧ HostNone w' s m ∧ Own [] W w' := by
  have hmm := @run_makeMap Tryz.prog
  go_enter Tryz.func95, Tryz.ntmps95
  go_wp2_with fail
  go_ret
  exact ⟨W.heap.size + 1, W.heap.size, rfl, ⟨heap_alloc2_new _ _ _, (MapS.made W).of_heap (by rw [Below.heap_alloc _ _ _ (by simp)])⟩, ((Own.refl _ _).alloc _).alloc _⟩
/-- A spark that knows nothing. -/
structure SN (w : World) (p m h hm bb r : Nat) : Prop where
  sp : w.heap[p]? = some (.cells #[.map (some m), Ptr h, Ptr bb, Ptr r, .int .i64 0] 177 (0, 0))
  nm : MapS keyEnc w m []
  ho : HostNone w h hm
  bi : w.heap[bb]? = some (.cells #[.slice none 0 0, .bool true] 301 (0, 0))
  ra : w.heap[r]? = some (.cells #[.int .i64 10, .slice none 0 0, .bool true] 298 (0, 0))
theorem SN.own {w w' : World} {p m h hm bb r : Nat} (H : SN w p m h hm bb r) (ho : Own [] w w') : SN w' p m h hm bb r :=
  ⟨ho.heap H.sp (by simp), H.nm.own ho (by simp), H.ho.own ho, ho.heap H.bi (by simp), ho.heap H.ra (by simp)⟩
set_option maxRecDepth 100000 in
set_option maxHeartbeats 2000000 in
theorem sparkNew (W : World) : Calls Tryz.prog 48 #[] W fun e w' => ∃ p m h hm bb r, e = .returned (Ptr p) ∧ SN w' p m h hm bb r ∧ Own [] W w' := by
  have hmm := @run_makeMap Tryz.prog
  have cR := Lib.hid (fun W => rateNew W)
  have cH := Lib.hid (fun W => hostNew W)
  have cB := Lib.hid (fun W => birthsNew W)
  go_enter Tryz.func48, Tryz.ntmps48
  go_wp2_with fail
  with_reducible refine (cR.out _).mono ?_
  rintro e w1 ⟨r, rfl, hR, hO1⟩
  replace hR := Lib.hid hR
  replace hO1 := Lib.hid hO1
  go_wp2_with fail
  have hO2 := Lib.hid (hO1.out.alloc (.map #[] 0))
  have hM := Lib.hid (MapS.made (enc := keyEnc) w1)
  have hR2 := Lib.hid (((Own.refl [] w1).alloc (.map #[] 0)).heap hR.out (by simp))
  with_reducible refine (cH.out _).mono ?_
  rintro e w3 ⟨h, hm, rfl, hH, hO3⟩
  have hM3 := Lib.hid (hM.out.own hO3 (by simp))
  have hR3 := Lib.hid (hO3.heap hR2.out (by simp))
  replace hO3 := Lib.hid (hO2.out.trans hO3)
  replace hH := Lib.hid hH
  clear hM hR2 hR
  go_wp2_with fail
  with_reducible refine (cB.out _).mono ?_
  rintro e w4 ⟨bb, rfl, hB, hO4⟩
  have hM4 := Lib.hid (hM3.out.own hO4 (by simp))
  have hR4 := Lib.hid (hO4.heap hR3.out (by simp))
  have hH4 := Lib.hid (hH.out.own hO4)
  replace hO4 := Lib.hid (hO3.out.trans hO4)
  replace hB := Lib.hid hB
  clear hM3 hR3 hH
  go_wp2_with fail
  go_ret
  have hA := (Own.refl [] w4).alloc (.cells #[.map (some w1.heap.size), Ptr h, Ptr bb, Ptr r, .int .i64 0] 177)
  exact ⟨_, _, _, _, _, _, rfl, ⟨heap_alloc_new _ _, hM4.out.own hA (by simp), hH4.out.own hA, hA.heap hB.out (by simp), hA.heap hR4.out (by simp)⟩, hO4.out.trans hA⟩
end Go.Proofs.YtacbahmmmndmbaaGreatDoor
