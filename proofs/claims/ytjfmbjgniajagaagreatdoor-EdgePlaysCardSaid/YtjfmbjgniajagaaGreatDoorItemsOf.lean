/- An item of a metric. -/
import Derived.Test.YtjfmbjgniajagaaGreatDoorItemsSame
import Derived.Deep.RegionHeld3
import Derived.Deep.DrawnRows
namespace Go.Proofs.YtjfmbjgniajagaaGreatDoor
open Go.RowKit
attribute [local go_sem ↓] Go.wp_at_zero Go.wp_at_succ

/-- The item of a metric. -/
def ofM (m : Met) : Itm := if m.vk = 8 ∨ m.vk = 9 then ⟨m.name, m.has, m.al, m.ty, m.null, m.vk, 0, ⟨#[]⟩⟩ else ⟨m.name, m.has, m.al, m.ty, m.null, m.vk, m.vn, m.vs⟩
def plainV (k n : Int) (s : ByteArray) : Int × ByteArray := if k = 8 ∨ k = 9 then (0, ⟨#[]⟩) else (n, s)
theorem ofM_eq (m : Met) : ofM m = ⟨m.name, m.has, m.al, m.ty, m.null, m.vk, (plainV m.vk m.vn m.vs).1, (plainV m.vk m.vn m.vs).2⟩ := by
  unfold ofM plainV; split <;> rfl
theorem ofM_wf {m : Met} (h : m.wf) : (ofM m).wf := by
  obtain ⟨h1, h2, h3, h4, h5, h6, h7, h8⟩ := h
  unfold ofM
  split
  · exact ⟨h1, h2, h3, h4, h5, h6, by simp, by simp⟩
  · exact ⟨h1, h2, h3, h4, h5, h6, h7, h8⟩
theorem ofM_name (m : Met) : (ofM m).name = m.name := by unfold ofM; split <;> rfl

theorem plain_any (k n : Int) (s : ByteArray) (w : World) :
    Calls Tryz.prog 113 #[.agg #[.int .i64 k, .int .u64 n, .string s]] w fun e w' => e = .returned (.agg #[.int .i64 k, .int .u64 (plainV k n s).1, .string (plainV k n s).2]) ∧ Own [] w w' := by
  have hO := ((Own.refl [] w).alloc (.cells #[.int .i64 k, .int .u64 n, .string s] 29))
  unfold plainV
  by_cases h8 : k = 8
  · rw [if_pos (Or.inl h8)]
    have e8 : ((k : Int) == 8) = true := by simpa using h8
    clear h8
    go_enter Tryz.func113, Tryz.ntmps113
    go_wp2_with fail
    exact bodyPost_ret (v := .agg #[.int .i64 k, .int .u64 0, .string ⟨#[]⟩]) (by simp [results, Tryz.results113, go_sem]) rfl ⟨rfl, hO.alloc _⟩
  · have e8 : ((k : Int) == 8) = false := by simpa using h8
    by_cases h9 : k = 9
    · rw [if_pos (Or.inr h9)]
      have e9 : ((k : Int) == 9) = true := by simpa using h9
      clear h9 h8
      go_enter Tryz.func113, Tryz.ntmps113
      go_wp2_with fail
      exact bodyPost_ret (v := .agg #[.int .i64 k, .int .u64 0, .string ⟨#[]⟩]) (by simp [results, Tryz.results113, go_sem]) rfl ⟨rfl, hO.alloc _⟩
    · rw [if_neg (by omega)]
      have e9 : ((k : Int) == 9) = false := by simpa using h9
      clear h9 h8
      go_enter Tryz.func113, Tryz.ntmps113
      go_wp2_with fail
      exact bodyPost_ret (v := .agg #[.int .i64 k, .int .u64 n, .string s]) (by simp [results, Tryz.results113, go_sem]) rfl ⟨rfl, hO.alloc _⟩

def OfPost (m : Met) (w : World) (e : Ending) (w' : World) : Prop := e = .returned (ofM m).val ∧ Own [] w w'
set_option maxHeartbeats 4000000 in
theorem of_any (m : Met) (w : World) : Calls Tryz.prog 108 #[m.val] w (OfPost m w) := by
  have hr := ofM_eq m
  unfold OfPost
  rw [hr]
  clear hr
  obtain ⟨nm, hs, al, ti, ty, hi, tr, nu, ⟨x1, y1, z1⟩, ⟨x2, y2, z2⟩, vk, vn, vs, ⟨x3, y3, z3⟩, ⟨x4, y4, z4⟩⟩ := m
  have hP := plain_any vk vn vs
  simp only
  generalize plainV vk vn vs = r at hP
  obtain ⟨rn, rs⟩ := r
  simp only at hP
  replace hP := Lib.hid hP
  unfold Met.val Met.cells
  obtain ⟨W1, hW1⟩ : ∃ W1, W1 = (w.alloc (.cells #[.string nm, .bool hs, .int .u64 al, .int .u64 ti, .int .u32 ty, .bool hi, .bool tr, .bool nu, .slice x1 y1 z1, .slice x2 y2 z2, .int .i64 vk, .int .u64 vn, .string vs, .slice x3 y3 z3, .slice x4 y4 z4] 36)).alloc (.cells #[.string ⟨#[]⟩, .bool false, .int .u64 0, .int .u32 0, .bool false, .int .i64 0, .int .u64 0, .string ⟨#[]⟩] 83) := ⟨_, rfl⟩
  have hO1 : Own [] w W1 := by rw [hW1]; exact ((Own.refl [] w).alloc _).alloc _
  have hB0 : W1.heap[w.heap.size]? = some (.cells #[.string nm, .bool hs, .int .u64 al, .int .u64 ti, .int .u32 ty, .bool hi, .bool tr, .bool nu, .slice x1 y1 z1, .slice x2 y2 z2, .int .i64 vk, .int .u64 vn, .string vs, .slice x3 y3 z3, .slice x4 y4 z4] 36 (0, 0)) := by
    rw [hW1, Below.heap_alloc _ _ _ (by simp)]; exact heap_alloc_new _ _
  have hB1 : W1.heap[w.heap.size + 1]? = some (.cells #[.string ⟨#[]⟩, .bool false, .int .u64 0, .int .u32 0, .bool false, .int .i64 0, .int .u64 0, .string ⟨#[]⟩] 83 (0, 0)) := by
    rw [hW1]; exact heap_alloc2_new _ _ _
  have c0 := blk_cell hB0 (j := 0) rfl
  have c1 := blk_cell hB0 (j := 1) rfl
  have c2 := blk_cell hB0 (j := 2) rfl
  have c4 := blk_cell hB0 (j := 4) rfl
  have c7 := blk_cell hB0 (j := 7) rfl
  have c10 := blk_cell hB0 (j := 10) rfl
  have c11 := blk_cell hB0 (j := 11) rfl
  have c12 := blk_cell hB0 (j := 12) rfl
  replace hO1 := Lib.hid hO1
  replace hB0 := Lib.hid hB0
  replace hB1 := Lib.hid hB1
  go_enter Tryz.func108, Tryz.ntmps108
  go_wp2_with fail
  rw [← hW1]
  replace hW1 := Lib.hid hW1
  go_region_held3 (fun w' => w'.cell? ⟨w.heap.size, 0, none⟩ = some (.string nm) ∧ w'.cell? ⟨w.heap.size, 1, none⟩ = some (.bool hs) ∧ w'.cell? ⟨w.heap.size, 2, none⟩ = some (.int .u64 al) ∧ w'.cell? ⟨w.heap.size, 4, none⟩ = some (.int .u32 ty) ∧ w'.cell? ⟨w.heap.size, 7, none⟩ = some (.bool nu) ∧ w'.cell? ⟨w.heap.size, 10, none⟩ = some (.int .i64 vk) ∧ w'.cell? ⟨w.heap.size, 11, none⟩ = some (.int .u64 vn) ∧ w'.cell? ⟨w.heap.size, 12, none⟩ = some (.string vs))
    (first | go_keep | (exact ⟨blk_cell hB2 (j := 0) rfl, blk_cell hB2 (j := 1) rfl, blk_cell hB2 (j := 2) rfl, blk_cell hB2 (j := 4) rfl, blk_cell hB2 (j := 7) rfl, blk_cell hB2 (j := 10) rfl, blk_cell hB2 (j := 11) rfl, blk_cell hB2 (j := 12) rfl⟩))
    ((go_at_call 113; refine (hP.out _).mono ?_; rintro e w2 ⟨rfl, hO2⟩; have hB2 := hO2.heap (b := w.heap.size) hB0.out (by simp); have hB3 := hO2.heap (b := w.heap.size + 1) hB1.out (by simp); obtain ⟨⟨d0, d1, d2, d3, d4, d5, d6, d7⟩, f0, f1, f2, f3, f4, f5, f6, f7⟩ := blk8 hB3))
  go_wp2_with fail
  have hO3 : Own [] w w2 := (hO1.out.drew).trans hO2
  exact bodyPost_ret (v := .agg #[.string nm, .bool hs, .int .u64 al, .int .u32 ty, .bool nu, .int .i64 vk, .int .u64 rn, .string rs]) (by simp [results, Tryz.results108, go_sem, d0, d1, d2, d3, d4, d5, d6, d7]) rfl ⟨rfl, own8 hO3 (.inr (by simp))⟩
set_option maxHeartbeats 4000000 in
theorem rof_any (m : Met) (w : World) : Calls Tryz.prog 101 #[m.val] w (OfPost m w) := by
  have hr := ofM_eq m
  unfold OfPost
  rw [hr]
  clear hr
  obtain ⟨nm, hs, al, ti, ty, hi, tr, nu, ⟨x1, y1, z1⟩, ⟨x2, y2, z2⟩, vk, vn, vs, ⟨x3, y3, z3⟩, ⟨x4, y4, z4⟩⟩ := m
  simp only
  unfold Met.val Met.cells plainV
  have hO1 := ((Own.refl [] w).alloc (.cells #[.string nm, .bool hs, .int .u64 al, .int .u64 ti, .int .u32 ty, .bool hi, .bool tr, .bool nu, .slice x1 y1 z1, .slice x2 y2 z2, .int .i64 vk, .int .u64 vn, .string vs, .slice x3 y3 z3, .slice x4 y4 z4] 36))
  by_cases h8 : vk = 8
  · rw [if_pos (Or.inl h8)]
    have e8 : ((vk : Int) == 8) = true := by simpa using h8
    clear h8
    go_enter Tryz.func101, Tryz.ntmps101
    go_wp2_with fail
    exact bodyPost_ret (v := .agg #[.string nm, .bool hs, .int .u64 al, .int .u32 ty, .bool nu, .int .i64 vk, .int .u64 0, .string ⟨#[]⟩]) (by simp [results, Tryz.results101, go_sem]) rfl ⟨rfl, (hO1.alloc _).alloc _⟩
  · have e8 : ((vk : Int) == 8) = false := by simpa using h8
    by_cases h9 : vk = 9
    · rw [if_pos (Or.inr h9)]
      have e9 : ((vk : Int) == 9) = true := by simpa using h9
      clear h9 h8
      go_enter Tryz.func101, Tryz.ntmps101
      go_wp2_with fail
      exact bodyPost_ret (v := .agg #[.string nm, .bool hs, .int .u64 al, .int .u32 ty, .bool nu, .int .i64 vk, .int .u64 0, .string ⟨#[]⟩]) (by simp [results, Tryz.results101, go_sem]) rfl ⟨rfl, (hO1.alloc _).alloc _⟩
    · rw [if_neg (by omega)]
      have e9 : ((vk : Int) == 9) = false := by simpa using h9
      clear h9 h8
      go_enter Tryz.func101, Tryz.ntmps101
      go_wp2_with fail
      exact bodyPost_ret (v := .agg #[.string nm, .bool hs, .int .u64 al, .int .u32 ty, .bool nu, .int .i64 vk, .int .u64 vn, .string vs]) (by simp [results, Tryz.results101, go_sem]) rfl ⟨rfl, (hO1.alloc _).alloc _⟩
end Go.Proofs.YtjfmbjgniajagaaGreatDoor
