/- Package device: what happens to a device. -/
import Derived.Test.YtjfmbjgniajagaaGreatDoorDev
set_option linter.unusedSimpArgs false
namespace Go.Proofs.YtjfmbjgniajagaaGreatDoor
open Go.RowKit

theorem method_birth (v : Value) (w : World) : (Go.method 352 170 (.agg #[v]) "crier/device.needsLife").run Tryz.prog w = .ok (150, .agg #[v]) w := by kernel_rfl
theorem method_told (v : Value) (w : World) : (Go.method 352 148 (.agg #[v]) "crier/device.needsLife").run Tryz.prog w = .ok (148, .agg #[v]) w := by kernel_rfl
theorem method_death (w : World) : (Go.method 352 138 (.agg #[]) "crier/device.needsLife").run Tryz.prog w = .ok (147, .agg #[]) w := by kernel_rfl
theorem as_bb (v : Value) (w : World) : (Instr.typeAssert (.iface 170 (.agg #[v])) 169 170 true).run Tryz.prog w = .ok (.tuple #[.agg #[v], .bool true]) w := by kernel_rfl
theorem as_tb (v : Value) (w : World) : (Instr.typeAssert (.iface 148 (.agg #[v])) 169 170 true).run Tryz.prog w = .ok (.tuple #[.agg #[.slice none 0 0], .bool false]) w := by kernel_rfl
theorem as_db (w : World) : (Instr.typeAssert (.iface 138 (.agg #[])) 169 170 true).run Tryz.prog w = .ok (.tuple #[.agg #[.slice none 0 0], .bool false]) w := by kernel_rfl
theorem as_tt (v : Value) (w : World) : (Instr.typeAssert (.iface 148 (.agg #[v])) 169 148 true).run Tryz.prog w = .ok (.tuple #[.agg #[v], .bool true]) w := by kernel_rfl
theorem as_dt (w : World) : (Instr.typeAssert (.iface 138 (.agg #[])) 169 148 true).run Tryz.prog w = .ok (.tuple #[.agg #[.slice none 0 0], .bool false]) w := by kernel_rfl
theorem as_dd (w : World) : (Instr.typeAssert (.iface 138 (.agg #[])) 169 138 true).run Tryz.prog w = .ok (.tuple #[.agg #[], .bool true]) w := by kernel_rfl
/-- What becomes of a device. -/
def HapPost (d : DW) (x' : Dev) (w : World) (e : Ending) (w' : World) : Prop := e = .returned (.int .i64 0) ∧ ∃ d', d'.blk = d.blk ∧ DevAt w' d' x' ∧ Own [d.blk] w w' ∧ (∀ b, d'.a.map (·.block) = some b → d.a.map (·.block) = some b ∨ w.heap.size ≤ b)
theorem hap_end {d : DW} {x x' : Dev} {w w3 w4 : World} {a : Option Addr} {cap : Nat} {li : Int} (h : DevAt w d x) (hn : x'.name = x.name) (hl : x'.items.length ≤ 32) (ho : Own [] w w3) (hR : OutRow w.heap.size w3 a cap x'.items) (h4 : w4.heap[d.blk]? = some (.cells #[.string x.name, .bool x'.on, .slice a x'.items.length cap, .int .i64 li] 99 (0, 0))) (ho4 : Own [d.blk] w3 w4) :
    ∃ d', d'.blk = d.blk ∧ DevAt w4 d' x' ∧ Own [d.blk] w w4 ∧ (∀ b, d'.a.map (·.block) = some b → d.a.map (·.block) = some b ∨ w.heap.size ≤ b) := by
  have hlt : d.blk < w.heap.size := lt_of_heap h.1
  have hf : ∀ b, a.map (·.block) = some b → w.heap.size ≤ b := fun b hb => by
    cases a with
    | none => cases hb
    | some q => cases hb; exact hR.fresh q rfl
  have h1 := hR.own' ho4 (fun b hb => by have := hf b hb; simp; omega)
  exact ⟨⟨d.blk, a, cap, li⟩, rfl, ⟨by rw [hn]; exact h4, ⟨h1.own, fun _ _ => Nat.zero_le _, h1.good⟩, by rw [hn]; exact h.2.2.1, hl⟩, ho.nil.trans ho4, fun b hb => .inr (hf b hb)⟩
set_option maxRecDepth 100000 in
set_option maxHeartbeats 4000000 in
theorem dborn_any (d : DW) (x : Dev) (a : Option Addr) (l : List Itm) (c : Nat) (w : World) (h : DevAt w d x) (hA : ItemsAt w a l) (hl : l.length ≤ 32) :
    Calls Tryz.prog 88 #[.pointer (some ⟨d.blk, 0, none⟩), .iface 170 (.agg #[.slice a l.length c])] w (HapPost d ⟨x.name, true, l⟩ w) := by
  have mb := method_birth
  have ab := as_bb
  obtain ⟨⟨k0, k1, k2, k3⟩, _⟩ := blk4 h.1
  have hlt : d.blk < w.heap.size := lt_of_heap h.1
  have cN := Lib.hid (dnone_any d.blk x.name w k0 h.2.2.1)
  have cC := Lib.hid fun W (ho : Own [] w W) => clone_any a l c W (hA.nil' ho) (by omega)
  unfold ClonePost at cC
  have hr := Lib.hid fun W (ho : Own [] w W) => ho.heap h.1 (by simp)
  have hend := Lib.hid fun w3 w4 a cap li => hap_end (x' := ⟨x.name, true, l⟩) (w3 := w3) (w4 := w4) (a := a) (cap := cap) (li := li) h rfl hl
  have hA2 := Lib.hid (show Own [] w ((w.alloc (.cells #[.slice a l.length c] 170)).alloc (.cells #[.slice a l.length c] 170)) from ((Own.refl _ _).alloc _).alloc _)
  clear h hA hl
  unfold HapPost
  go_enter Tryz.func88, Tryz.ntmps88
  go_wp2_with (first
    | (go_at_call 41; (with_reducible refine cN.out.mono ?_); rintro e w1 ⟨rfl, rfl⟩)
    | (go_at_call 150; go_in)
    | (go_at_call 26; (with_reducible refine (cC.out _ hA2.out).mono ?_); rintro e w3 ⟨a', cap', rfl, hR3, hO3⟩; obtain ⟨⟨c0, c1, c2, c3⟩, f0, f1, f2, f3⟩ := blk4 (hr.out _ (hA2.out.trans hO3)); replace hR3 := Lib.hid hR3; replace hO3 := Lib.hid (hA2.out.trans hO3)))
  go_ret
  refine ⟨rfl, hend.out _ _ _ _ _ hO3.out ⟨hR3.out.own, fun q hq => Nat.le_trans hA2.out.size (hR3.out.fresh q hq), hR3.out.good⟩ (heap_setCell_same _ _ _ _ _ _ (heap_setCell_same _ _ _ _ _ _ (heap_setCell_same _ _ _ _ _ _ (hr.out _ hO3.out)))) ?_⟩
  repeat (first | refine Own.setCell ?_ (.inl (by simp)) _ | with_reducible exact Own.refl _ _)
set_option maxRecDepth 100000 in
set_option maxHeartbeats 4000000 in
theorem dtold_any (d : DW) (x : Dev) (a : Option Addr) (l : List Itm) (c : Nat) (w : World) (h : DevAt w d x) (hon : x.on = true) (hA : ItemsAt w a l) (hl : l.length ≤ 32) :
    Calls Tryz.prog 88 #[.pointer (some ⟨d.blk, 0, none⟩), .iface 148 (.agg #[.slice a l.length c])] w (HapPost d ⟨x.name, true, l⟩ w) := by
  have mb := method_told
  have ab := as_tb
  have at_ := as_tt
  obtain ⟨⟨k0, k1, k2, k3⟩, _⟩ := blk4 h.1
  rw [hon] at k1
  have hlt : d.blk < w.heap.size := lt_of_heap h.1
  have cN := Lib.hid (dnone_any d.blk x.name w k0 h.2.2.1)
  have cC := Lib.hid fun W (ho : Own [] w W) => clone_any a l c W (hA.nil' ho) (by omega)
  unfold ClonePost at cC
  have hr := Lib.hid fun W (ho : Own [] w W) => ho.heap h.1 (by simp)
  have hend := Lib.hid fun w3 w4 a cap li => hap_end (x' := ⟨x.name, true, l⟩) (w3 := w3) (w4 := w4) (a := a) (cap := cap) (li := li) h rfl hl
  have hA2 := Lib.hid (show Own [] w ((w.alloc (.cells #[.slice a l.length c] 148)).alloc (.cells #[.slice a l.length c] 148)) from ((Own.refl _ _).alloc _).alloc _)
  replace hon := Lib.hid hon
  clear h hA hl
  unfold HapPost
  go_enter Tryz.func88, Tryz.ntmps88
  go_wp2_with (first
    | (go_at_call 41; (with_reducible refine cN.out.mono ?_); rintro e w1 ⟨rfl, rfl⟩)
    | (go_at_call 148; go_in)
    | (go_at_call 26; (with_reducible refine (cC.out _ hA2.out).mono ?_); rintro e w3 ⟨a', cap', rfl, hR3, hO3⟩; obtain ⟨⟨c0, c1, c2, c3⟩, f0, f1, f2, f3⟩ := blk4 (hr.out _ (hA2.out.trans hO3)); replace hR3 := Lib.hid hR3; replace hO3 := Lib.hid (hA2.out.trans hO3)))
  go_ret
  have hr3 := hr.out _ hO3.out
  rw [hon.out] at hr3
  refine ⟨rfl, hend.out _ _ _ _ _ hO3.out ⟨hR3.out.own, fun q hq => Nat.le_trans hA2.out.size (hR3.out.fresh q hq), hR3.out.good⟩ (heap_setCell_same _ _ _ _ _ _ hr3) ?_⟩
  repeat (first | refine Own.setCell ?_ (.inl (by simp)) _ | with_reducible exact Own.refl _ _)
set_option maxRecDepth 100000 in
set_option maxHeartbeats 4000000 in
theorem ddeath_any (d : DW) (x : Dev) (w : World) (h : DevAt w d x) (hne : d.a.map (·.block) ≠ some d.blk) :
    Calls Tryz.prog 88 #[.pointer (some ⟨d.blk, 0, none⟩), .iface 138 (.agg #[])] w fun e w' => (∃ c, e = .returned (.int .i64 c)) ∧ DevAt w' d ⟨x.name, false, x.items⟩ ∧ Own [d.blk] w w' := by
  have mb := method_death
  have ab := as_db
  have at_ := as_dt
  have ad := as_dd
  obtain ⟨⟨k0, k1, k2, k3⟩, _⟩ := blk4 h.1
  have hg1 := (blk4 h.1).2.2.1
  have hlt : d.blk < w.heap.size := lt_of_heap h.1
  have cN := Lib.hid (dnone_any d.blk x.name w k0 h.2.2.1)
  have hend : ∀ w4, w4.heap[d.blk]? = some (.cells #[.string x.name, .bool false, .slice d.a x.items.length d.cap, .int .i64 d.lives] 99 (0, 0)) → Own [d.blk] w w4 → DevAt w4 d ⟨x.name, false, x.items⟩ := fun w4 h4 ho =>
    ⟨h4, h.2.1.own' ho (fun b hb => by simp; rintro rfl; exact hne hb), h.2.2⟩
  have hr := Lib.hid fun W (ho : Own [] w W) => ho.heap h.1 (by simp)
  replace hend := Lib.hid hend
  cases hon : x.on
  · have hon2 := Lib.hid hon
    rw [hon] at k1
    clear h hne hon
    go_enter Tryz.func88, Tryz.ntmps88
    go_wp2_with (first
      | (go_at_call 41; (with_reducible refine cN.out.mono ?_); rintro e w1 ⟨rfl, rfl⟩)
      | (go_at_call 147; go_in))
    go_ret
    have hA := (Own.refl [] w).alloc (.cells #[] 138)
    have hrw := hr.out _ hA
    rw [hon2.out] at hrw
    exact ⟨⟨_, rfl⟩, hend.out _ hrw hA.nil, hA.nil⟩
  · have hon2 := Lib.hid hon
    rw [hon] at k1
    clear h hne hon
    go_enter Tryz.func88, Tryz.ntmps88
    go_wp2_with (first
      | (go_at_call 41; (with_reducible refine cN.out.mono ?_); rintro e w1 ⟨rfl, rfl⟩)
      | (go_at_call 147; go_in))
    go_ret
    have hrw := hr.out _ (Own.refl _ _)
    rw [hon2.out] at hrw
    have hO0 : Own [d.blk] w (w.setCell ⟨d.blk, 1, none⟩ (.bool false)) := (Own.refl _ _).setCell (.inl (by simp)) _
    have hO1 : Own [] (w.setCell ⟨d.blk, 1, none⟩ (.bool false)) (((w.setCell ⟨d.blk, 1, none⟩ (.bool false)).alloc (.cells #[] 138)).alloc (.cells #[] 138)) := ((Own.refl _ _).alloc _).alloc _
    have hO := hO0.trans hO1.nil
    exact ⟨⟨_, rfl⟩, hend.out _ (hO1.heap (heap_setCell_same _ _ _ _ _ _ hrw) (by simp)) hO, hO⟩

/-! ### Born, Told, Dies -/
set_option maxHeartbeats 1000000 in
theorem vborn_any (d : DW) (x : Dev) (a : Option Addr) (l : List Itm) (c : Nat) (w : World) (h : DevAt w d x) (hA : ItemsAt w a l) (hl : l.length ≤ 32) :
    Calls Tryz.prog 97 #[.pointer (some ⟨d.blk, 0, none⟩), .slice a l.length c] w (HapPost d ⟨x.name, true, l⟩ w) := by
  have cB := Lib.hid (dborn_any d x a l c w h hA hl)
  clear h hA hl
  unfold HapPost at *
  go_enter Tryz.func97, Tryz.ntmps97
  go_wp2_with (go_at_call 88; (with_reducible refine cB.out.mono ?_); rintro e w1 ⟨rfl, hx⟩; replace hx := Lib.hid hx)
  go_ret
  exact ⟨rfl, hx.out⟩
set_option maxHeartbeats 1000000 in
theorem vtold_any (d : DW) (x : Dev) (a : Option Addr) (l : List Itm) (c : Nat) (w : World) (h : DevAt w d x) (hon : x.on = true) (hA : ItemsAt w a l) (hl : l.length ≤ 32) :
    Calls Tryz.prog 64 #[.pointer (some ⟨d.blk, 0, none⟩), .slice a l.length c] w (HapPost d ⟨x.name, true, l⟩ w) := by
  have cB := Lib.hid (dtold_any d x a l c w h hon hA hl)
  clear h hA hl hon
  unfold HapPost at *
  go_enter Tryz.func64, Tryz.ntmps64
  go_wp2_with (go_at_call 88; (with_reducible refine cB.out.mono ?_); rintro e w1 ⟨rfl, hx⟩; replace hx := Lib.hid hx)
  go_ret
  exact ⟨rfl, hx.out⟩
set_option maxHeartbeats 1000000 in
theorem vdies_any (d : DW) (x : Dev) (w : World) (h : DevAt w d x) (hne : d.a.map (·.block) ≠ some d.blk) :
    Calls Tryz.prog 56 #[.pointer (some ⟨d.blk, 0, none⟩)] w fun e w' => (∃ c, e = .returned (.int .i64 c)) ∧ DevAt w' d ⟨x.name, false, x.items⟩ ∧ Own [d.blk] w w' := by
  have cB := Lib.hid (ddeath_any d x w h hne)
  clear h hne
  go_enter Tryz.func56, Tryz.ntmps56
  go_wp2_with (go_at_call 88; (with_reducible refine cB.out.mono ?_); rintro e w1 ⟨⟨c, rfl⟩, hx⟩; replace hx := Lib.hid hx)
  go_ret
  exact ⟨⟨_, rfl⟩, hx.out⟩
/-- A new device. -/
theorem dnew_any (nm : ByteArray) (w : World) (hn : nm.toList.isEmpty = false) :
    Calls Tryz.prog 95 #[.string nm] w fun e w' => ∃ b, e = .returned (.tuple #[.pointer (some ⟨b, 0, none⟩), .int .i64 0]) ∧ DevAt w' ⟨b, none, 0, 0⟩ ⟨nm, false, []⟩ ∧ Own [] w w' ∧ w.heap.size ≤ b := by
  have hr : (w.alloc (.cells #[.string nm, .bool false, .slice none 0 0, .int .i64 0] 99)).heap[w.heap.size]? = some (.cells #[.string nm, .bool false, .slice none 0 0, .int .i64 0] 99 (0, 0)) := heap_alloc_new _ _
  replace hr := Lib.hid hr
  go_enter Tryz.func95, Tryz.ntmps95
  go_wp2_with fail
  go_ret2
  exact ⟨_, rfl, ⟨hr.out, OutRow.nil _ _, hn, by simp⟩, (Own.refl _ _).alloc _, Nat.le_refl _⟩
end Go.Proofs.YtjfmbjgniajagaaGreatDoor
