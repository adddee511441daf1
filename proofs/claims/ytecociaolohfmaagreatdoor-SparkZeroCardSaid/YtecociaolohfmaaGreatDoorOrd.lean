/- The order of strings, as the machine knows it; lists that rise by a key. -/
import Derived.Test.YtecociaolohfmaaGreatDoorBase
import Derived.Sort.Walk0
namespace Go.Proofs.YtecociaolohfmaaGreatDoor
open Go.RowKit Go.Sort

def sless (x y : ByteArray) : Bool := Op.bytesLess x.toList y.toList
def scmp (x y : ByteArray) : Int := if sless x y then -1 else if x.toList == y.toList then 0 else 1
theorem sless_iff (x y : ByteArray) : sless x y = true ↔ x.toList < y.toList := by
  unfold sless
  rw [bytesLess_eq]
  simp
theorem toList_inj {x y : ByteArray} (h : x.toList = y.toList) : x = y := by
  have : (x == y) = true := by rw [beq_toListBytes]; simpa using h
  simpa using this
theorem sless_irrefl (x : ByteArray) : sless x x = false := by
  cases h : sless x x
  · rfl
  · exact absurd ((sless_iff x x).1 h) (List.lt_irrefl _)
theorem sless_trans {x y z : ByteArray} (h : sless x y = true) (k : sless y z = true) : sless x z = true :=
  (sless_iff x z).2 (List.lt_trans ((sless_iff x y).1 h) ((sless_iff y z).1 k))
theorem sless_asymm {x y : ByteArray} (h : sless x y = true) : sless y x = false := by
  cases k : sless y x
  · rfl
  · have := sless_trans h k
    rw [sless_irrefl] at this
    cases this
theorem sless_total {x y : ByteArray} (h : sless x y = false) (k : sless y x = false) : x = y := by
  refine toList_inj (List.le_antisymm (List.not_lt.1 fun hc => ?_) (List.not_lt.1 fun hc => ?_))
  · rw [(sless_iff y x).2 hc] at k; cases k
  · rw [(sless_iff x y).2 hc] at h; cases h
theorem sless_of {x y : ByteArray} (h : sless y x = false) (hne : x ≠ y) : sless x y = true := by
  cases k : sless x y
  · exact absurd (sless_total k h) hne
  · rfl
/-- It rises by its keys. -/
def Rises {α : Type} (key : α → ByteArray) (l : List α) : Prop := l.Pairwise fun x y => sless (key x) (key y) = true
theorem rises_of {α : Type} {key : α → ByteArray} {l : List α} (h : l.Pairwise fun x y => sless (key y) (key x) = false) (hn : (l.map key).Nodup) : Rises key l := by
  unfold Rises
  induction l with
  | nil => exact List.Pairwise.nil
  | cons x r ih =>
    rw [List.pairwise_cons] at h ⊢
    rw [List.map_cons, List.nodup_cons] at hn
    exact ⟨fun y hy => sless_of (h.1 y hy) (fun e => hn.1 (e ▸ List.mem_map_of_mem hy)), ih h.2 hn.2⟩
theorem rises_eq {α : Type} {key : α → ByteArray} : ∀ {l l' : List α}, l.Perm l' → Rises key l → Rises key l' → l = l'
  | [], l', hp, _, _ => (List.Perm.nil_eq hp)
  | x :: r, [], hp, _, _ => absurd hp.length_eq (by simp)
  | x :: r, y :: r', hp, h1, h2 => by
    unfold Rises at h1 h2
    rw [List.pairwise_cons] at h1 h2
    have hx : x ∈ y :: r' := hp.subset (List.mem_cons_self ..)
    have hy : y ∈ x :: r := hp.symm.subset (List.mem_cons_self ..)
    have hxy : x = y := by
      rcases List.mem_cons.1 hx with rfl | hx'
      · rfl
      · rcases List.mem_cons.1 hy with rfl | hy'
        · rfl
        · have a := h2.1 x hx'
          have b := sless_asymm (h1.1 y hy')
          rw [a] at b; cases b
    subst hxy
    rw [rises_eq (List.perm_cons x |>.1 hp) h1.2 h2.2]
end Go.Proofs.YtecociaolohfmaaGreatDoor
