/- Package rate: marks on a heap. -/
import Derived.Test.YtecociaolohfmaaGreatDoorRows
import Derived.Test.YtecociaolohfmaaGreatDoorMaps
import Derived.Test.YtecociaolohfmaaGreatDoorArgs
import Derived.OpenShut
import Derived.Deep.LoopGhost
import Derived.Deep.QuietTactic
import Derived.BigQuiet
import Derived.Deep.AppendLies
import Derived.Deep.RegionWith
import Derived.Deep.RegionLaw
namespace Go.Proofs.YtecociaolohfmaaGreatDoor
open Go.RowKit

structure Mk where
  blk : Nat
  key : ByteArray
  at_ : Int
def Mk.ptr (x : Mk) : Value := .pointer (some ⟨x.blk, 0, none⟩)
def Mk.dflt : Mk := ⟨0, ByteArray.empty, 0⟩

/-- A slice of marks: row and marks. -/
structure Marks (w : World) (v : Value) (ms : List Mk) : Prop where
  own : w.ownsRow 0 205 1 v ms.length (ms.map Mk.ptr)
  marks : ∀ x ∈ ms, w.heap[x.blk]? = some (.cells #[.string x.key, .int .i64 x.at_] 207 (0, 0)) ∧ 0 ≤ x.at_ ∧ x.at_ ≤ 1073741824
  apart : ∀ x ∈ ms, v.ownBlock ≠ some x.blk

theorem Marks.shape {w : World} {v : Value} {ms : List Mk} (h : Marks w v ms) (hp : 0 < ms.length) : ∃ g cap cur, v = .slice (some ⟨g, 0, none⟩) ms.length cap ∧ w.heap[g]? = some (.cells cur 205 (0, 0)) ∧ ms.length ≤ cap ∧ cur.size = cap ∧
    ∀ i, i < ms.length → cur[i]? = some (ms.getD i Mk.dflt).ptr := by
  obtain ⟨h1, h2 | ⟨g, cap, cur, hv, _, hg, hn, _, hs, ht⟩⟩ := h.own
  · omega
  · refine ⟨g, cap, cur, hv, hg, hn, by simpa using hs, fun i hi => ?_⟩
    have : (cur.toList.take (ms.length * 1))[i]? = (ms.map Mk.ptr)[i]? := by rw [ht]
    rw [List.getElem?_take_of_lt (by omega)] at this
    simpa [List.getD, List.getElem?_eq_getElem hi] using this

theorem less_any (v : Value) (ms : List Mk) (i j : Nat) (w : World) (h : Marks w v ms) (hi : i < ms.length) (hj : j < ms.length) (hl : ms.length ≤ 1000) :
    Calls Tryz.prog 284 #[v, .int .i64 i, .int .i64 j] w fun e w' => e = .returned (.bool (decide ((ms.getD i Mk.dflt).at_ < (ms.getD j Mk.dflt).at_))) ∧ Own [] w w' := by
  obtain ⟨g, cap, cur, rfl, hg, hn, hs, hc⟩ := h.shape (by omega)
  have mi : ms.getD i Mk.dflt ∈ ms := by simp [List.getD, List.getElem?_eq_getElem hi]
  have mj : ms.getD j Mk.dflt ∈ ms := by simp [List.getD, List.getElem?_eq_getElem hj]
  have ci : w.cell? ⟨g, i, none⟩ = some (.pointer (some ⟨(ms.getD i Mk.dflt).blk, 0, none⟩)) := (cell_of_row w g i _ _ _ hg).trans (hc i hi)
  have cj : w.cell? ⟨g, j, none⟩ = some (.pointer (some ⟨(ms.getD j Mk.dflt).blk, 0, none⟩)) := (cell_of_row w g j _ _ _ hg).trans (hc j hj)
  have di : w.cell? ⟨(ms.getD i Mk.dflt).blk, 1, none⟩ = some (.int .i64 (ms.getD i Mk.dflt).at_) := cell_of_row w _ 1 _ _ _ (h.marks _ mi).1
  have dj : w.cell? ⟨(ms.getD j Mk.dflt).blk, 1, none⟩ = some (.int .i64 (ms.getD j Mk.dflt).at_) := cell_of_row w _ 1 _ _ _ (h.marks _ mj).1
  generalize ms.getD i Mk.dflt = xi at *
  generalize ms.getD j Mk.dflt = xj at *
  have b1 : (0 : Int) ≤ i := by omega
  have b2 : (i : Int) < ms.length := by omega
  have b3 : (0 : Int) ≤ j := by omega
  have b4 : (j : Int) < ms.length := by omega
  clear h hc mi mj hg hs
  go_enter Tryz.func284, Tryz.ntmps284
  go_wp2_with fail
  go_quiet (fail)
  go_wp2_with fail
  go_ret
  exact ⟨rfl, (Own.refl _ _).drewN _⟩

/-- Two places change what they hold. -/
def swp (ms : List Mk) (i j : Nat) : List Mk := (ms.set i (ms.getD j Mk.dflt)).set j (ms.getD i Mk.dflt)
theorem swp_len (ms : List Mk) (i j : Nat) : (swp ms i j).length = ms.length := by simp [swp]

theorem swap_walk (g : Nat) (n cap : Nat) (i j : Nat) (xi xj : Nat) (w : World) (hi : i < n) (hj : j < n) (hij : i ≠ j)
    (ci : w.cell? ⟨g, i, none⟩ = some (.pointer (some ⟨xi, 0, none⟩))) (cj : w.cell? ⟨g, j, none⟩ = some (.pointer (some ⟨xj, 0, none⟩))) (fi : ∀ o, w.frozen? ⟨g, o, none⟩ = false) :
    Calls Tryz.prog 285 #[.slice (some ⟨g, 0, none⟩) n cap, .int .i64 i, .int .i64 j] w fun e w' => e = .returned (.tuple #[]) ∧ w'.heap = ((w.setCell ⟨g, i, none⟩ (.pointer (some ⟨xj, 0, none⟩))).setCell ⟨g, j, none⟩ (.pointer (some ⟨xi, 0, none⟩))).heap ∧ Own [g] w w' := by
  have b1 : (0 : Int) ≤ i := by omega
  have b2 : (i : Int) < n := by omega
  have b3 : (0 : Int) ≤ j := by omega
  have b4 : (j : Int) < n := by omega
  have f1 := fi i
  have f2 := fi j
  have hij' : ¬ j = i := fun e => hij e.symm
  clear fi
  go_enter Tryz.func285, Tryz.ntmps285
  go_wp2_with fail
  go_region
  all_goals
    go_end0
    exact ⟨rfl, rfl, (((Own.refl [g] w).setCell (by simp) _).setCell (by simp) _).drew⟩

theorem swap_any (v : Value) (ms : List Mk) (i j : Nat) (w : World) (h : Marks w v ms) (hi : i < ms.length) (hj : j < ms.length) (hij : i ≠ j) :
    Calls Tryz.prog 285 #[v, .int .i64 i, .int .i64 j] w fun e w' => e = .returned (.tuple #[]) ∧ Marks w' v (swp ms i j) ∧ Own v.ownBlock.toList w w' := by
  obtain ⟨g, cap, cur, rfl, hg, hn, hs, hc⟩ := h.shape (by omega)
  have mi : ms.getD i Mk.dflt ∈ ms := by simp [List.getD, List.getElem?_eq_getElem hi]
  have mj : ms.getD j Mk.dflt ∈ ms := by simp [List.getD, List.getElem?_eq_getElem hj]
  have ci := (cell_of_row w g i _ _ _ hg).trans (hc i hi)
  have cj := (cell_of_row w g j _ _ _ hg).trans (hc j hj)
  refine (swap_walk g ms.length cap i j _ _ w hi hj hij ci cj (fun o => frozen_of_row w g o _ _ hg)).mono ?_
  rintro e w' ⟨rfl, hh, ho⟩
  have hb : ∀ x ∈ swp ms i j, x ∈ ms := by
    intro x hx
    unfold swp at hx
    rcases List.mem_or_eq_of_mem_set hx with h1 | rfl
    · rcases List.mem_or_eq_of_mem_set h1 with h2 | rfl
      · exact h2
      · exact mj
    · exact mi
  refine ⟨rfl, ⟨?_, fun x hx => ?_, fun x hx => h.apart x (hb x hx)⟩, ho⟩
  · obtain ⟨h1, h2⟩ := h.own
    refine ⟨by simp [swp_len], .inr ⟨g, cap, (cur.setIfInBounds i (ms.getD j Mk.dflt).ptr).setIfInBounds j (ms.getD i Mk.dflt).ptr, by rw [swp_len], Nat.zero_le _, ?_, by rw [swp_len]; exact hn, ?_, by simpa using hs, ?_⟩⟩
    · rw [hh]
      exact heap_setCell_same _ _ _ _ _ _ (heap_setCell_same _ _ _ _ _ _ hg)
    · rcases h2 with ⟨h3, _⟩ | ⟨g', cap', cur', h3, _, h4, _, h5, _⟩
      · simp at h3
      · simp only [Value.slice.injEq] at h3
        omega
    · rw [swp_len, Nat.mul_one]
      apply List.ext_getElem?
      intro k
      by_cases hk : k < ms.length
      · rw [List.getElem?_take_of_lt hk]
        have hk2 := hc k hk
        have hkc : k < cur.size := by omega
        simp only [Array.getElem?_toList, Array.getElem?_setIfInBounds, Array.size_setIfInBounds, List.getElem?_map, swp, List.getElem?_set, List.length_set]
        by_cases h1 : j = k
        · subst h1
          simp [hkc, hj]
        · by_cases h2 : i = k
          · subst h2
            simp [hkc, hi, h1]
          · simp only [h1, h2, if_false]
            rw [hk2]
            simp [List.getD, List.getElem?_eq_getElem hk]
      · rw [List.getElem?_eq_none (by simp; omega), List.getElem?_eq_none (by simp [swp_len]; omega)]
  · refine ⟨?_, (h.marks x (hb x hx)).2⟩
    exact ho.heap (h.marks x (hb x hx)).1 (by
      have := h.apart x (hb x hx)
      simp [Value.ownBlock] at this ⊢
      exact fun e => this e.symm)
end Go.Proofs.YtecociaolohfmaaGreatDoor
