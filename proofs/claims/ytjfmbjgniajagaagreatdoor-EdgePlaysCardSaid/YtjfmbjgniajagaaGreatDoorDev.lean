/- Package device: a device, what it has, and what happens to it. -/
import Derived.Test.YtjfmbjgniajagaaGreatDoorEdgeM
import Derived.Test.YtjfmbjgniajagaaGreatDoorItemsFind2
import Derived.Test.YtjfmbjgniajagaaGreatDoorItemsClone
import Derived.Deep.RegionWith
set_option linter.unusedSimpArgs false
namespace Go.Proofs.YtjfmbjgniajagaaGreatDoor
open Go.RowKit

theorem blk3 {w : World} {b : Nat} {v0 v1 v2 : Value} {T : TypeId} (h : w.heap[b]? = some (.cells #[v0, v1, v2] T (0, 0))) :
    (w.cell? ⟨b, 0, none⟩ = some v0 ∧ w.cell? ⟨b, 1, none⟩ = some v1 ∧ w.cell? ⟨b, 2, none⟩ = some v2) ∧ (w.frozen? ⟨b, 0, none⟩ = false ∧ w.frozen? ⟨b, 1, none⟩ = false ∧ w.frozen? ⟨b, 2, none⟩ = false) :=
  ⟨⟨blk_cell h rfl, blk_cell h rfl, blk_cell h rfl⟩, blk_free h 0, blk_free h 1, blk_free h 2⟩
theorem blk4 {w : World} {b : Nat} {v0 v1 v2 v3 : Value} {T : TypeId} (h : w.heap[b]? = some (.cells #[v0, v1, v2, v3] T (0, 0))) :
    (w.cell? ⟨b, 0, none⟩ = some v0 ∧ w.cell? ⟨b, 1, none⟩ = some v1 ∧ w.cell? ⟨b, 2, none⟩ = some v2 ∧ w.cell? ⟨b, 3, none⟩ = some v3) ∧ (w.frozen? ⟨b, 0, none⟩ = false ∧ w.frozen? ⟨b, 1, none⟩ = false ∧ w.frozen? ⟨b, 2, none⟩ = false ∧ w.frozen? ⟨b, 3, none⟩ = false) :=
  ⟨⟨blk_cell h rfl, blk_cell h rfl, blk_cell h rfl, blk_cell h rfl⟩, blk_free h 0, blk_free h 1, blk_free h 2, blk_free h 3⟩
theorem DevAt.own {S : List Nat} {w w' : World} {d : DW} {x : Dev} (h : DevAt w d x) (ho : Own S w w') (hb : d.blk ∉ S) (ha : ∀ b, d.a.map (·.block) = some b → b ∉ S) : DevAt w' d x :=
  ⟨ho.heap h.1 hb, h.2.1.own' ho ha, h.2.2⟩
theorem DevAt.nil' {w w' : World} {d : DW} {x : Dev} (h : DevAt w d x) (ho : Own [] w w') : DevAt w' d x := h.own ho (by simp) (by simp)
theorem dnone_any (b : Nat) (nm : ByteArray) (w : World) (h : w.cell? ⟨b, 0, none⟩ = some (.string nm)) (hn : nm.toList.isEmpty = false) :
    Calls Tryz.prog 41 #[.pointer (some ⟨b, 0, none⟩)] w fun e w' => e = .returned (.bool false) ∧ w = w' := by
  go_enter Tryz.func41, Tryz.ntmps41
  go_wp2_with fail
  go_ret
  exact ⟨rfl, rfl⟩
set_option maxRecDepth 100000 in
set_option maxHeartbeats 1000000 in
theorem donline_any (d : DW) (x : Dev) (w : World) (h : DevAt w d x) :
    Calls Tryz.prog 98 #[.pointer (some ⟨d.blk, 0, none⟩)] w fun e w' => e = .returned (.bool x.on) ∧ w = w' := by
  obtain ⟨⟨k0, k1, k2, k3⟩, _⟩ := blk4 h.1
  have cN := Lib.hid (dnone_any d.blk x.name w k0 h.2.2.1)
  clear h k2 k3
  go_enter Tryz.func98, Tryz.ntmps98
  go_wp2_with (go_at_call 41; (with_reducible refine cN.out.mono ?_); rintro e w1 ⟨rfl, rfl⟩)
  go_ret
  exact ⟨by simp, rfl⟩
set_option maxRecDepth 100000 in
set_option maxHeartbeats 4000000 in
theorem dview_any (d : DW) (x : Dev) (w : World) (h : DevAt w d x) :
    Calls Tryz.prog 28 #[.pointer (some ⟨d.blk, 0, none⟩)] w fun e w' => ∃ a cap, e = .returned (.agg #[.string x.name, .bool x.on, .slice a x.items.length cap]) ∧ OutRow w.heap.size w' a cap x.items ∧ Own [] w w' := by
  obtain ⟨⟨k0, k1, k2, k3⟩, _⟩ := blk4 h.1
  have hlt : d.blk < w.heap.size := lt_of_heap h.1
  have hl := h.2.2.2
  have cN := fun W (ho : Own [] w W) => dnone_any d.blk x.name W (blk4 (ho.heap h.1 (by simp))).1.1 h.2.2.1
  have cC := fun W (ho : Own [] w W) => clone_any d.a x.items d.cap W ((h.2.1.nil' ho).at_ (by omega)) (by omega)
  unfold ClonePost at cC
  have hA1 : Own [] w (w.alloc (.cells #[.string ⟨#[]⟩, .bool false, .slice none 0 0] 56)) := (Own.refl _ _).alloc _
  have hA2 : Own [] w ((w.alloc (.cells #[.string ⟨#[]⟩, .bool false, .slice none 0 0] 56)).alloc (.cells #[.string x.name, .bool x.on, .slice d.a x.items.length d.cap] 56)) := hA1.alloc _
  have hr1 : ((w.alloc (.cells #[.string ⟨#[]⟩, .bool false, .slice none 0 0] 56)).alloc (.cells #[.string x.name, .bool x.on, .slice d.a x.items.length d.cap] 56)).heap[w.heap.size]? = some (.cells #[.string ⟨#[]⟩, .bool false, .slice none 0 0] 56 (0, 0)) :=
    ((Own.refl [] _).alloc _).heap (heap_alloc_new w _) (by simp)
  have hr2 : ((w.alloc (.cells #[.string ⟨#[]⟩, .bool false, .slice none 0 0] 56)).alloc (.cells #[.string x.name, .bool x.on, .slice d.a x.items.length d.cap] 56)).heap[w.heap.size + 1]? = some (.cells #[.string x.name, .bool x.on, .slice d.a x.items.length d.cap] 56 (0, 0)) := by
    have := heap_alloc_new (w.alloc (.cells #[.string ⟨#[]⟩, .bool false, .slice none 0 0] 56)) (.cells #[.string x.name, .bool x.on, .slice d.a x.items.length d.cap] 56)
    simpa using this
  have hfin : ∀ w3 w4 a cap, OutRow (w.heap.size + 2) w3 a cap x.items → Own [] w w3 → Own [w.heap.size, w.heap.size + 1] w3 w4 → OutRow w.heap.size w4 a cap x.items ∧ Own [] w w4 := fun w3 w4 a cap hR ho ho4 => by
    have h1 := hR.own' ho4 (fun b hb => by
      have := hR.fresh
      cases a with
      | none => cases hb
      | some q => cases hb; have := this q rfl; simp; omega)
    exact ⟨⟨h1.own, fun q hq => by have := h1.fresh q hq; omega, h1.good⟩, ho.trans' ho4 (fun y hy => .inr (by simp at hy; omega))⟩
  have cN1 := Lib.hid (cN _ hA1)
  have cC2 := cC _ hA2
  have hsz : ((w.alloc (.cells #[.string ⟨#[]⟩, .bool false, .slice none 0 0] 56)).alloc (.cells #[.string x.name, .bool x.on, .slice d.a x.items.length d.cap] 56)).heap.size = w.heap.size + 2 := by simp
  rw [hsz] at cC2
  replace cC2 := Lib.hid cC2
  clear cC cN h hsz
  generalize x.items = its at *
  generalize x.name = nm at *
  generalize x.on = on at *
  replace hA1 := Lib.hid hA1
  replace hA2 := Lib.hid hA2
  replace hr1 := Lib.hid hr1
  replace hr2 := Lib.hid hr2
  replace hfin := Lib.hid hfin
  go_enter Tryz.func28, Tryz.ntmps28
  go_wp2_with (first
    | (go_at_call 41; (with_reducible refine cN1.out.mono ?_); rintro e w1 ⟨rfl, rfl⟩)
    | (go_at_call 26; (with_reducible refine cC2.out.mono ?_); rintro e w3 ⟨a, cap, rfl, hR3, hO3⟩; obtain ⟨⟨c0, c1, c2⟩, f0, f1, f2⟩ := blk3 (hO3.heap hr1.out (by simp)); obtain ⟨⟨d0, d1, d2⟩, e0, e1, e2⟩ := blk3 (hO3.heap hr2.out (by simp)); replace hR3 := Lib.hid hR3; replace hO3 := Lib.hid (hA2.out.trans hO3)))
  refine bodyPost_ret (v := .agg #[.string nm, .bool on, .slice a its.length cap]) (by simp [results, Tryz.results28, go_sem, c0, c1, c2, d0, d1, d2, f0, f1, f2, e0, e1, e2]) rfl ⟨a, cap, rfl, hfin.out _ _ _ _ hR3.out hO3.out ?_⟩
  repeat (first | refine Own.setCell ?_ (.inl (by simp)) _ | with_reducible exact Own.refl _ _)
end Go.Proofs.YtjfmbjgniajagaaGreatDoor
