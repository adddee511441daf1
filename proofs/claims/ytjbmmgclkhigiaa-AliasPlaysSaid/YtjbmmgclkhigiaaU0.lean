/- The library's sort at uint64 (alias.All): rows in memory, cmp.Less; the plain functions of the sort, one step at a time. -/
import Derived.Test.YtjbmmgclkhigiaaProg
import Derived.Test.YtjbmmgclkhigiaaBase
import Derived.Sort.AssemblyPlain
import Derived.Sort.Row
import Derived.WalkKit
import Derived.RegionTactic
import Derived.Deep.LoopGhost
import Derived.Deep.Draws
import Derived.Deep.QuietTactic
import Derived.Deep.RegionWith
import Derived.Deep.CutRange
import Derived.Deep.CutBlock
import Derived.BigCall
import Derived.BigGuard
import Derived.CellFam
import Derived.BigQuiet
set_option linter.unusedSimpArgs false
set_option linter.unusedVariables false
namespace Go.Proofs.Ytjbmmgclkhigiaa
open Go.RowKit

abbrev eU : Int → Value := Value.int .u64
/-- From w to w' only block blk has turned; its row holds d. -/
structure Rw (blk off : Nat) (w w' : World) (d : Array Int) : Prop where
  own : Own [blk] w w'
  row : Sort.Holds eU w' blk off d
section
variable {blk off : Nat} {w w' w'' : World} {d d' : Array Int}
theorem Rw.refl (h : Sort.Holds eU w blk off d) : Rw blk off w w d := ⟨Own.refl _ _, h⟩
theorem Rw.trans (h : Rw blk off w w' d) (k : Rw blk off w' w'' d') : Rw blk off w w'' d' := ⟨h.own.trans k.own, k.row⟩
theorem Rw.drewN (h : Rw blk off w w' d) (n : Nat) : Rw blk off w (w'.drewN n) d := ⟨h.own.drewN n, h.row⟩
theorem Rw.drew (h : Rw blk off w w' d) : Rw blk off w w'.drew d := ⟨h.own.drew, h.row⟩
theorem Rw.nil (h : Rw blk off w w' d) (ho : Own [] w' w'') (hb : 0 < d.size → blk < w'.heap.size) (hfr : ∀ j, j < d.size → w''.frozen? ⟨blk, off + j, none⟩ = w'.frozen? ⟨blk, off + j, none⟩) : Rw blk off w w'' d :=
  ⟨h.own.trans ho.nil, fun j hj => ⟨by rw [ho.cell (by exact hb (by omega)) (by simp)]; exact (h.row j hj).1, by rw [hfr j hj]; exact (h.row j hj).2⟩⟩
theorem Rw.swap (h : Rw blk off w w' d) {i j : Nat} (hi : i < d.size) (hj : j < d.size) {x y : Value} (hx : x = eU d[j]!) (hy : y = eU d[i]!) :
    Rw blk off w ((w'.setCell ⟨blk, off + i, none⟩ x).setCell ⟨blk, off + j, none⟩ y) (Sort.swp d i j) := by
  subst hx hy
  have e := Sort.putRow_swp eU w' blk off d i j hi hj
  rw [Sort.putRow_self _ _ _ _ _ h.row] at e
  refine ⟨(h.own.setCell (.inl (by simp)) _).setCell (.inl (by simp)) _, ?_⟩
  rw [e]
  exact Sort.holds_putRow eU w' blk off d _ h.row (Sort.size_swp _ _ _)
theorem Rw.fam (h : Rw blk off w w' d) {n : Nat} (hn : d.size = n) :
    ∃ G : Nat → Int, Aside (∀ t, G t = d[t]!) ∧ (∀ t, t < n → w'.cell? ⟨blk, off + t, none⟩ = some (.int .u64 (G t))) ∧ (∀ t, t < n → w'.frozen? ⟨blk, off + t, none⟩ = false) :=
  ⟨fun t => d[t]!, fun _ => rfl, fun t ht => (h.row t (by omega)).1, fun t ht => (h.row t (by omega)).2⟩
theorem Rw.famG (h : Rw blk off w w' d) {n : Nat} (hn : d.size = n) {G : Nat → Int} (hG : ∀ t, G t = d[t]!) :
    (∀ t, t < n → w'.cell? ⟨blk, off + t, none⟩ = some (.int .u64 (G t))) ∧ (∀ t, t < n → w'.frozen? ⟨blk, off + t, none⟩ = false) :=
  ⟨fun t ht => by rw [hG]; exact (h.row t (by omega)).1, fun t ht => (h.row t (by omega)).2⟩
end

theorem isnan64 (x : Int) (w : World) : Calls Try.prog 51 #[.int .u64 x] w fun e w' => e = .returned (.bool false) ∧ w' = w := by
  go_enter Try.func51, Try.ntmps51
  go_wp2_with fail
  go_ret
  exact ⟨by simp, rfl⟩
theorem less64 (x y : Int) (w : World) : Calls Try.prog 41 #[.int .u64 x, .int .u64 y] w fun e w' => e = .returned (.bool (Sort.ltInt x y)) ∧ w' = w := by
  go_enter Try.func41, Try.ntmps41
  go_wp2_with (go_at_call 51; refine (isnan64 _ _).mono ?_; rintro e w' ⟨rfl, rfl⟩)
  go_ret
  exact ⟨rfl, rfl⟩

/-! ### the plain functions, a step at a time -/
section
variable {α : Type} [Inhabited α] (lt : α → α → Bool)
theorem in_go {a j : Nat} {d : Array α} (hj : a < j) (hl : lt d[j]! d[j - 1]! = true) : Sort.insInner lt a (j - 1) (Sort.swp d j (j - 1)) = Sort.insInner lt a j d := by
  cases j with
  | zero => omega
  | succ k => rw [Sort.insInner.eq_2]; simp only [Nat.add_sub_cancel] at hl ⊢; simp [hj, hl]
theorem in_end {a j : Nat} {d : Array α} (h : j ≤ a ∨ lt d[j]! d[j - 1]! = false) : Sort.insInner lt a j d = d := by
  cases j with
  | zero => rw [Sort.insInner.eq_1]
  | succ k =>
    rw [Sort.insInner.eq_2]
    simp only [Nat.add_sub_cancel] at h
    rcases h with h | h
    · simp [show ¬ k + 1 > a by omega]
    · simp [h]
theorem out_go {a b i : Nat} {d : Array α} (h : i < b) : Sort.insOuter lt a b (i + 1) (Sort.insInner lt a i d) = Sort.insOuter lt a b i d := by
  rw [Sort.insOuter.eq_1 lt a b i, if_pos h]
theorem out_end {a b i : Nat} {d : Array α} (h : ¬ i < b) : Sort.insOuter lt a b i d = d := by rw [Sort.insOuter, if_neg h]
theorem up_go {p : α → Bool} {d : Array α} {j i : Nat} (h : i ≤ j) (hp : p d[i]! = true) : Sort.scanUp p d j (i + 1) = Sort.scanUp p d j i := by
  rw [Sort.scanUp.eq_1 p d j i, if_pos (by simp [h, hp])]
theorem up_end {p : α → Bool} {d : Array α} {j i : Nat} (h : ¬ i ≤ j ∨ p d[i]! = false) : Sort.scanUp p d j i = i := by
  rw [Sort.scanUp, if_neg (by rcases h with h | h <;> simp [h])]
theorem down_go {p : α → Bool} {d : Array α} {i j : Nat} (h : i ≤ j) (h0 : 0 < j) (hp : p d[j]! = true) : Sort.scanDown p d i (j - 1) = Sort.scanDown p d i j := by
  cases j with
  | zero => omega
  | succ k => rw [Sort.scanDown.eq_2, if_pos (by simp [h, hp])]; rfl
theorem down_end {p : α → Bool} {d : Array α} {i j : Nat} (h : ¬ i ≤ j ∨ p d[j]! = false) : Sort.scanDown p d i j = j := by
  cases j with
  | zero => rfl
  | succ k => rw [Sort.scanDown, if_neg (by rcases h with h | h <;> simp [h])]
theorem sorted_go {d : Array α} {b i : Nat} (h : i < b) (hl : lt d[i]! d[i - 1]! = false) : Sort.scanSorted lt d b (i + 1) = Sort.scanSorted lt d b i := by
  rw [Sort.scanSorted.eq_1 lt d b i]; simp [h, hl]
theorem sorted_end {d : Array α} {b i : Nat} (h : ¬ i < b ∨ lt d[i]! d[i - 1]! = true) : Sort.scanSorted lt d b i = i := by
  rw [Sort.scanSorted]
  rcases h with h | h <;> simp [h]
theorem sdown_go {j : Nat} {d : Array α} (hj : 1 ≤ j) (hl : lt d[j]! d[j - 1]! = true) : Sort.shiftDown lt (j - 1) (Sort.swp d j (j - 1)) = Sort.shiftDown lt j d := by
  cases j with
  | zero => omega
  | succ k => rw [Sort.shiftDown.eq_2]; simp only [Nat.add_sub_cancel] at hl ⊢; simp [hl]
theorem sdown_end {j : Nat} {d : Array α} (h : j = 0 ∨ lt d[j]! d[j - 1]! = false) : Sort.shiftDown lt j d = d := by
  cases j with
  | zero => rw [Sort.shiftDown.eq_1]
  | succ k =>
    rw [Sort.shiftDown.eq_2]
    simp only [Nat.add_sub_cancel] at h
    rcases h with h | h
    · omega
    · simp [h]
theorem sup_go {b j : Nat} {d : Array α} (hj : j < b) (hl : lt d[j]! d[j - 1]! = true) : Sort.shiftUp lt b (j + 1) (Sort.swp d j (j - 1)) = Sort.shiftUp lt b j d := by
  rw [Sort.shiftUp.eq_1 lt b j]; simp [hj, hl]
theorem sup_end {b j : Nat} {d : Array α} (h : ¬ j < b ∨ lt d[j]! d[j - 1]! = false) : Sort.shiftUp lt b j d = d := by
  rw [Sort.shiftUp]
  rcases h with h | h
  · simp [h]
  · by_cases hj : j < b <;> simp [hj, h]
theorem sift_end {hi F r : Nat} {d : Array α} (h : hi ≤ 2 * r + 1) : Sort.siftDown lt hi F r d = d := by rw [Sort.siftDown, dif_pos h]
/-- The greater child of a root. -/
def bigChild (hi F r : Nat) (d : Array α) : Nat := if 2 * r + 2 < hi ∧ lt d[F + (2 * r + 1)]! d[F + (2 * r + 2)]! = true then 2 * r + 2 else 2 * r + 1
theorem bigChild_lt {hi F r : Nat} {d : Array α} (h : 2 * r + 1 < hi) : bigChild lt hi F r d < hi ∧ r < bigChild lt hi F r d := by unfold bigChild; split <;> omega
theorem sift_stop {hi F r c : Nat} {d : Array α} (h : 2 * r + 1 < hi) (hc : bigChild lt hi F r d = c) (hl : lt d[F + r]! d[F + c]! = false) : Sort.siftDown lt hi F r d = d := by
  subst hc
  rw [Sort.siftDown, dif_neg (by omega)]
  unfold bigChild at hl
  rw [show F + (2 * r + 1) + 1 = F + (2 * r + 2) by omega, show 2 * r + 1 + 1 = 2 * r + 2 by omega]
  by_cases h2 : 2 * r + 2 < hi
  · by_cases h3 : lt d[F + (2 * r + 1)]! d[F + (2 * r + 2)]! = true <;> simp_all
  · simp only [h2, false_and, if_false, decide_false, Bool.false_and, Bool.false_eq_true] at hl ⊢
    simp [hl]
theorem sift_go {hi F r c : Nat} {d : Array α} (h : 2 * r + 1 < hi) (hc : bigChild lt hi F r d = c) (hl : lt d[F + r]! d[F + c]! = true) : Sort.siftDown lt hi F c (Sort.swp d (F + r) (F + c)) = Sort.siftDown lt hi F r d := by
  subst hc
  rw [Sort.siftDown.eq_1 lt hi F r, dif_neg (by omega)]
  unfold bigChild at hl ⊢
  rw [show F + (2 * r + 1) + 1 = F + (2 * r + 2) by omega, show 2 * r + 1 + 1 = 2 * r + 2 by omega]
  by_cases h2 : 2 * r + 2 < hi
  · by_cases h3 : lt d[F + (2 * r + 1)]! d[F + (2 * r + 2)]! = true <;> simp_all
  · simp only [h2, false_and, if_false, decide_false, Bool.false_and, Bool.false_eq_true] at hl ⊢
    simp [hl]
theorem sift_size (hi F : Nat) : ∀ (n r : Nat) (d : Array α), hi - r ≤ n → (Sort.siftDown lt hi F r d).size = d.size
  | 0, r, d, h => by rw [sift_end lt (by omega)]
  | n + 1, r, d, h => by
    by_cases h1 : hi ≤ 2 * r + 1
    · rw [sift_end lt h1]
    · have hb := bigChild_lt lt (F := F) (d := d) (show 2 * r + 1 < hi by omega)
      cases hl : lt d[F + r]! d[F + bigChild lt hi F r d]! with
      | false => rw [sift_stop lt (by omega) rfl hl]
      | true => rw [← sift_go lt (by omega) rfl hl, sift_size hi F n _ _ (by omega), Sort.size_swp]
end
end Go.Proofs.Ytjbmmgclkhigiaa
