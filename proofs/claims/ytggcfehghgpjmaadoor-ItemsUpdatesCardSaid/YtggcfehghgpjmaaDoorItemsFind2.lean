/- Package items and its document: Find, Same. -/
import Derived.Test.YtggcfehghgpjmaaDoorItemsFind
namespace Go.Proofs.YtggcfehghgpjmaaDoor
open Go.RowKit

/-- A block that is known whole. -/
theorem blk_cell {w : World} {b : Nat} {cs : Array Value} {T : TypeId} (h : w.heap[b]? = some (.cells cs T (0, 0))) {j : Nat} {v : Value} (hv : cs[j]? = some v) : w.cell? ⟨b, j, none⟩ = some v := (cell_of_row w b j cs _ _ h).trans hv
theorem blk_free {w : World} {b : Nat} {cs : Array Value} {T : TypeId} (h : w.heap[b]? = some (.cells cs T (0, 0))) (j : Nat) : w.frozen? ⟨b, j, none⟩ = false := frozen_of_row w b j cs _ h

theorem blk8 {w : World} {b : Nat} {v0 v1 v2 v3 v4 v5 v6 v7 : Value} {T : TypeId} (h : w.heap[b]? = some (.cells #[v0, v1, v2, v3, v4, v5, v6, v7] T (0, 0))) :
    (w.cell? ⟨b, 0, none⟩ = some v0 ∧ w.cell? ⟨b, 1, none⟩ = some v1 ∧ w.cell? ⟨b, 2, none⟩ = some v2 ∧ w.cell? ⟨b, 3, none⟩ = some v3 ∧ w.cell? ⟨b, 4, none⟩ = some v4 ∧ w.cell? ⟨b, 5, none⟩ = some v5 ∧ w.cell? ⟨b, 6, none⟩ = some v6 ∧ w.cell? ⟨b, 7, none⟩ = some v7) ∧
    (w.frozen? ⟨b, 0, none⟩ = false ∧ w.frozen? ⟨b, 1, none⟩ = false ∧ w.frozen? ⟨b, 2, none⟩ = false ∧ w.frozen? ⟨b, 3, none⟩ = false ∧ w.frozen? ⟨b, 4, none⟩ = false ∧ w.frozen? ⟨b, 5, none⟩ = false ∧ w.frozen? ⟨b, 6, none⟩ = false ∧ w.frozen? ⟨b, 7, none⟩ = false) :=
  ⟨⟨blk_cell h rfl, blk_cell h rfl, blk_cell h rfl, blk_cell h rfl, blk_cell h rfl, blk_cell h rfl, blk_cell h rfl, blk_cell h rfl⟩, blk_free h 0, blk_free h 1, blk_free h 2, blk_free h 3, blk_free h 4, blk_free h 5, blk_free h 6, blk_free h 7⟩
/-- The eight cells of an item, one by one. -/
def At8 (w : World) (b q : Nat) (x : Itm) : Prop := ∀ j v, x.cells[j]? = some v → w.cell? ⟨b, q + j, none⟩ = some v
theorem At8.own {S : List Nat} {w w' : World} {b q : Nat} {x : Itm} (h : At8 w b q x) (ho : Own S w w') (hb : b < w.heap.size) (hS : b ∉ S) : At8 w' b q x := fun j v hj => (ho.cell (p := ⟨b, q + j, none⟩) hb hS).trans (h j v hj)
theorem At8.all {w : World} {b q : Nat} {nm vs : ByteArray} {hs nu : Bool} {al ty vk vn : Int} (h : At8 w b q ⟨nm, hs, al, ty, nu, vk, vn, vs⟩) :
    w.cell? ⟨b, q, none⟩ = some (.string nm) ∧ w.cell? ⟨b, q + 1, none⟩ = some (.bool hs) ∧ w.cell? ⟨b, q + 2, none⟩ = some (.int .u64 al) ∧ w.cell? ⟨b, q + 3, none⟩ = some (.int .u32 ty) ∧ w.cell? ⟨b, q + 4, none⟩ = some (.bool nu) ∧ w.cell? ⟨b, q + 5, none⟩ = some (.int .i64 vk) ∧ w.cell? ⟨b, q + 6, none⟩ = some (.int .u64 vn) ∧ w.cell? ⟨b, q + 7, none⟩ = some (.string vs) :=
  ⟨h 0 _ rfl, h 1 _ rfl, h 2 _ rfl, h 3 _ rfl, h 4 _ rfl, h 5 _ rfl, h 6 _ rfl, h 7 _ rfl⟩
theorem own8 {S : List Nat} {w w' : World} {b : Nat} {v0 v1 v2 v3 v4 v5 v6 v7 : Value} (h : Own S w w') (hb : b ∈ S ∨ w.heap.size ≤ b) : Own S w ((((((((w'.setCell ⟨b, 0, none⟩ v0).setCell ⟨b, 1, none⟩ v1).setCell ⟨b, 2, none⟩ v2).setCell ⟨b, 3, none⟩ v3).setCell ⟨b, 4, none⟩ v4).setCell ⟨b, 5, none⟩ v5).setCell ⟨b, 6, none⟩ v6).setCell ⟨b, 7, none⟩ v7) :=
  (((((((h.setCell hb _).setCell hb _).setCell hb _).setCell hb _).setCell hb _).setCell hb _).setCell hb _).setCell hb _

/-! ### Find -/
def FindPost (w : World) (r : Itm × Bool) (e : Ending) (w' : World) : Prop := e = .returned (.tuple #[r.1.val, .bool r.2]) ∧ Own [] w w'
def zItm : List Value := [.string ⟨#[]⟩, .bool false, .int .u64 0, .int .u32 0, .bool false, .int .i64 0, .int .u64 0, .string ⟨#[]⟩]
set_option maxHeartbeats 1000000 in
theorem itFind_any (a : Option Addr) (L : List Itm) (cap : Nat) (key : ByteArray) (w : World) (h : ItemsAt w a L) :
    Calls Tryd.prog 9 #[.slice a L.length cap, .string key] w (FindPost w (itFind L key)) := by
  have hl := h.1
  have P := Lib.hid (fun (w1 : World) (hO : Own [] w w1) (lb : Nat) (hc : w1.cell? ⟨lb, 0, none⟩ = some (.slice a L.length cap)) => place_any a L cap lb key w1 (h.nil' hO) hc)
  have hO1 : ∀ s, Own [] w ((w.alloc (.cells #[.string ⟨#[]⟩, .bool false, .int .u64 0, .int .u32 0, .bool false, .int .i64 0, .int .u64 0, .string ⟨#[]⟩] 37)).alloc (.cells #[s] 33)) := fun s => ((Own.refl [] w).alloc _).alloc _
  have hB1 : ∀ s, ((w.alloc (.cells #[.string ⟨#[]⟩, .bool false, .int .u64 0, .int .u32 0, .bool false, .int .i64 0, .int .u64 0, .string ⟨#[]⟩] 37)).alloc (.cells #[s] 33)).heap[w.heap.size]? = some (.cells #[.string ⟨#[]⟩, .bool false, .int .u64 0, .int .u32 0, .bool false, .int .i64 0, .int .u64 0, .string ⟨#[]⟩] 37 (0, 0)) := fun s => by
    rw [Below.heap_alloc _ _ _ (by simp)]; exact heap_alloc_new _ _
  replace hO1 := Lib.hid hO1
  replace hB1 := Lib.hid hB1
  unfold FindPost
  cases hi : itIdx L key with
  | none =>
    have hr : itFind L key = (Itm.zero, false) := by unfold itFind; rw [hi]
    have hp : itPlace L key = -1 := by unfold itPlace; rw [hi]
    rw [hr]
    rw [hp] at P
    clear hi hr hp h
    go_enter Tryd.func9, Tryd.ntmps9
    go_wp2_with fail
    refine (P.out _ (hO1.out _) _ (by simp)).mono ?_
    rintro e w2 ⟨rfl, hO2⟩
    have hB2 := hO2.heap (hB1.out _) (by simp)
    have hO3 := (hO1.out _).trans hO2
    obtain ⟨⟨c0, c1, c2, c3, c4, c5, c6, c7⟩, f0, f1, f2, f3, f4, f5, f6, f7⟩ := blk8 hB2
    clear hO1 hB1 hB2 P hO2
    replace hO3 := Lib.hid hO3
    go_wp2_with fail
    exact bodyPost_ret (v := .tuple #[.agg #[.string ⟨#[]⟩, .bool false, .int .u64 0, .int .u32 0, .bool false, .int .i64 0, .int .u64 0, .string ⟨#[]⟩], .bool false]) (by simp [results, Tryd.results9, go_sem, c0, c1, c2, c3, c4, c5, c6, c7]) rfl ⟨rfl, own8 hO3.out (.inr (Nat.le_refl _))⟩
  | some i =>
    have hil := (itIdx_lt hi).1
    have hr : itFind L key = (itAt L i, true) := by unfold itFind; rw [hi]
    have hp : itPlace L key = i := by unfold itPlace; rw [hi]
    rw [hr]
    rw [hp] at P
    obtain ⟨b, o, rfl, hb, hwf, hc⟩ := h.item hil
    generalize itAt L i = x at hc ⊢
    obtain ⟨nm, hs, al, ty, nu, vk, vn, vs⟩ := x
    replace hc := Lib.hid hc
    clear hi hr hp h hwf
    go_enter Tryd.func9, Tryd.ntmps9
    go_wp2_with fail
    refine (P.out _ (hO1.out _) _ (by simp)).mono ?_
    rintro e w2 ⟨rfl, hO2⟩
    have hB2 := hO2.heap (hB1.out _) (by simp)
    have hO3 := (hO1.out _).trans hO2
    obtain ⟨⟨c0, c1, c2, c3, c4, c5, c6, c7⟩, f0, f1, f2, f3, f4, f5, f6, f7⟩ := blk8 hB2
    obtain ⟨d0, d1, d2, d3, d4, d5, d6, d7⟩ := At8.all (At8.own hc.out hO3 hb (by simp))
    clear hO1 hB1 hB2 P hO2 hc
    replace hO3 := Lib.hid hO3
    go_wp2_with fail
    exact bodyPost_ret (v := .tuple #[.agg #[.string nm, .bool hs, .int .u64 al, .int .u32 ty, .bool nu, .int .i64 vk, .int .u64 vn, .string vs], .bool true]) (by simp [results, Tryd.results9, go_sem, c0, c1, c2, c3, c4, c5, c6, c7]) rfl ⟨rfl, own8 hO3.out (.inr (Nat.le_refl _))⟩
set_option maxHeartbeats 1000000 in
theorem itRfind_any (a : Option Addr) (L : List Itm) (cap : Nat) (key : ByteArray) (w : World) (h : ItemsAt w a L) :
    Calls Tryd.prog 10 #[.slice a L.length cap, .string key] w (FindPost w (itFind L key)) := by
  have hl := h.1
  have hO1 : Own [] w (w.alloc (.cells #[.string ⟨#[]⟩, .bool false, .int .u64 0, .int .u32 0, .bool false, .int .i64 0, .int .u64 0, .string ⟨#[]⟩] 37)) := (Own.refl [] w).alloc _
  have P := rplace_any a L cap key _ (h.nil' hO1)
  replace hO1 := Lib.hid hO1
  unfold FindPost
  cases hi : itIdx L key with
  | none =>
    have hr : itFind L key = (Itm.zero, false) := by unfold itFind; rw [hi]
    have hp : itPlace L key = -1 := by unfold itPlace; rw [hi]
    rw [hr]
    rw [hp] at P
    replace P := Lib.hid P
    clear hi hr hp h
    go_enter Tryd.func10, Tryd.ntmps10
    go_wp2_with fail
    refine P.out.mono ?_
    rintro e w2 ⟨rfl, rfl⟩
    go_wp2_with fail
    exact bodyPost_ret (v := .tuple #[.agg #[.string ⟨#[]⟩, .bool false, .int .u64 0, .int .u32 0, .bool false, .int .i64 0, .int .u64 0, .string ⟨#[]⟩], .bool false]) (by simp [results, Tryd.results10, go_sem]) rfl ⟨rfl, hO1.out⟩
  | some i =>
    have hil := (itIdx_lt hi).1
    have hr : itFind L key = (itAt L i, true) := by unfold itFind; rw [hi]
    have hp : itPlace L key = i := by unfold itPlace; rw [hi]
    rw [hr]
    rw [hp] at P
    replace P := Lib.hid P
    obtain ⟨b, o, rfl, hb, hwf, hc⟩ := h.item hil
    generalize itAt L i = x at hc ⊢
    obtain ⟨nm, hs, al, ty, nu, vk, vn, vs⟩ := x
    obtain ⟨d0, d1, d2, d3, d4, d5, d6, d7⟩ := At8.all (At8.own hc hO1.out hb (by simp))
    clear hi hr hp h hwf hc
    go_enter Tryd.func10, Tryd.ntmps10
    go_wp2_with fail
    refine P.out.mono ?_
    rintro e w2 ⟨rfl, rfl⟩
    go_wp2_with fail
    exact bodyPost_ret (v := .tuple #[.agg #[.string nm, .bool hs, .int .u64 al, .int .u32 ty, .bool nu, .int .i64 vk, .int .u64 vn, .string vs], .bool true]) (by simp [results, Tryd.results10, go_sem]) rfl ⟨rfl, (Own.refl [] w).alloc _⟩
end Go.Proofs.YtggcfehghgpjmaaDoor
