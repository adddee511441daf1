/- slices.Sorted(maps.Keys(b)), in plain terms. -/
import Derived.Test.YtldagaliddgdjaaGreatDoorTrieBest
import Derived.Test.YtldagaliddgdjaaGreatDoorShelf
import Derived.Shelf.SlIterI.Nil
import Derived.Shelf.SlIterI.Sorted
import Derived.Shelf.SortM.Plain
import Derived.Shelf.SortM.SortNone
namespace Go.Proofs.YtldagaliddgdjaaGreatDoor
open Go.RowKit Go.Lib Go.Shelf Go.Maps Go.Sort

def nilRead (_ : Value) : Option (DataW Unit × List MemPlace) := some (.nil, [])
theorem owns_of {w : World} {m : Nat} {B : List (Int × Int)} (h : MapP (Value.int .i64) (Value.int .i64) w m B) (hk : ∀ p ∈ B, (Lit.int .i64 p.1).wf = true) (hl : B.length ≤ 1000) :
    ∃ D0 : DataW Unit, w.ownsMap Tryz.prog 3 nilRead m B.length D0 ∧ (intKeys D0).Perm (B.map (·.1)) ∧ Maps.size D0 = B.length := by
  obtain ⟨l', hp, es, clock, hh, he, hst⟩ := h
  have hlen : es.size = B.length := by
    have := congrArg List.length he
    simp [onV] at this
    rw [← hp.length_eq]; exact this
  have hkey : ∀ x ∈ es.toList, ∃ p ∈ B, x.key = .int .i64 p.1 := fun x hx => by
    have h1 : (x.key, x.val) ∈ es.toList.map (fun e => (e.key, e.val)) := List.mem_map_of_mem hx
    rw [he] at h1
    obtain ⟨q, hq, e⟩ := List.mem_map.1 h1
    obtain ⟨p, hp', rfl⟩ := List.mem_map.1 hq
    exact ⟨p, hp.subset hp', (Prod.mk.inj e).1.symm⟩
  have hrd : ∀ x ∈ es.toList, ∀ p : Int × Int, p ∈ B → x.key = .int .i64 p.1 → WideElems.rd Tryz.prog 3 nilRead x = some (.int .i64 p.1, .nil) := fun x _ p hpB e => by
    unfold WideElems.rd
    rw [e]
    have hu := Tryz.underlying3
    simp [keyOf, hu, mapKey, hk p hpB, nilRead]
  refine ⟨_, ⟨es, clock, hh, ⟨by rw [hlen]; unfold maxLen; omega, hst, fun x hx => ?_⟩, by omega, rfl⟩, ?_, ?_⟩
  · obtain ⟨p, hpB, e⟩ := hkey x hx
    exact ⟨_, hrd x hx p hpB e⟩
  · have h1 := (WideShapes.sorted_perm (es.toList.map (WideElems.rg Tryz.prog 3 nilRead))).map (fun p => Go.intOf p.1)
    refine h1.trans ?_
    rw [List.map_map]
    have h2 : es.toList.map ((fun p : Lit × DataW Unit => Go.intOf p.1) ∘ WideElems.rg Tryz.prog 3 nilRead) = es.toList.map fun e => (match e.key with | .int _ a => a | _ => 0) := by
      refine List.map_congr_left fun x hx => ?_
      obtain ⟨p, hpB, e⟩ := hkey x hx
      simp only [Function.comp_apply]
      rw [WideElems.rg_of (hrd x hx p hpB e), e]
      rfl
    rw [h2]
    have h3 : es.toList.map (fun e => (match e.key with | .int _ a => a | _ => 0)) = (es.toList.map (fun e => (e.key, e.val))).map (fun p => (match p.1 with | .int _ a => a | _ => 0)) := by
      rw [List.map_map]; rfl
    rw [h3, he]
    simp only [onV, List.map_map]
    exact hp.map _
  · show ((es.toList.map (WideElems.rg Tryz.prog 3 nilRead)).foldr DataW.insert []).length = _
    rw [(WideShapes.sorted_perm _).length_eq, List.length_map]
    simpa using hlen

def iL (x : Int) : List Value := [.int .i64 x]
theorem iL_len (x : Int) : (iL x).length = 1 := rfl
theorem sortsI (m : Nat) : AnyZI.SortsIn Tryz.prog Tryz.laysSorted_ren Fence.wide m :=
  ⟨fun blk off cap ss W hH hblk hsz => callsIn_wide.2 (AnyM.slices_Sort_int Tryz.laysSortI blk off cap ss W hH hblk hsz),
   fun p cap W => callsIn_wide.2 (AnyM.slices_Sort_int_none Tryz.laysSortI p cap W)⟩
theorem keys_call (mb : Option Nat) (W : World) : Calls Tryz.prog 28 #[.map mb] W fun e w' => e = .returned (.func (.func 49) #[] #[.pointer (some ⟨W.heap.size, 0, none⟩)]) ∧ w' = W.alloc (.cells #[.map mb] 60) :=
  (callsIn_wide (n := 5)).1 (AnyZI.keys_in Tryz.laysKeys Fence.wide 5 trivial rfl mb W)
theorem rowOf_iL (l : List Int) : rowOf iL l = l.map encZ := by
  induction l with
  | nil => rfl
  | cons x r ih => simp only [rowOf, List.flatMap_cons, List.map_cons] at ih ⊢; rw [ih]; rfl
theorem sorted_call (m : Nat) (B : List (Int × Int)) (w : World) (h : MapP (Value.int .i64) (Value.int .i64) w m B) (hk : ∀ p ∈ B, (Lit.int .i64 p.1).wf = true) (hl : B.length ≤ 1000) :
    Calls Tryz.prog 27 #[.func (.func 49) #[] #[.pointer (some ⟨w.heap.size, 0, none⟩)]] (w.alloc (.cells #[.map (some m)] 60)) fun e w' =>
      ∃ v ks, e = .returned v ∧ ks.Perm (B.map (·.1)) ∧ ks.Pairwise (fun a b => a ≤ b) ∧ Reads iL w' v ks ∧ Own [] (w.alloc (.cells #[.map (some m)] 60)) w' := by
  obtain ⟨D0, hown, hperm, hsize⟩ := owns_of h hk hl
  have hbl := hown.lt
  have hseq : SeqGives Fence.wide 2 Tryz.prog 49 #[.pointer (some ⟨w.heap.size, 0, none⟩)] encZ (fun ss => ss.Perm (intKeys D0)) (Maps.size D0) (w.alloc (.cells #[.map (some m)] 60)) :=
    AnyZI.keys_gives (ρ := Tryz.laysKeys_ren) { Tryz.laysKeys with } Fence.wide _ trivial rfl (by omega) w.heap.size m B.length D0 _ (by simp) (by simp) (by
      obtain ⟨es, clock, hb, Ft, hs, hD⟩ := hown
      exact ⟨es, clock, (Below.heap_alloc _ _ m hbl).trans hb, Ft, hs, hD⟩)
  have cS := AnyZI.sorted_in Tryz.laysSorted Fence.wide 5 trivial trivial trivial trivial rfl (by omega) (sortsI _) (enters_of Tryz.func48 (by kernel_rfl) rfl) 49 #[.pointer (some ⟨w.heap.size, 0, none⟩)] trivial (enters_of Tryz.func49 (by kernel_rfl) rfl) _ _ (by rw [hsize]; unfold maxLen; omega) (by rw [hsize]; omega) _ hseq
  refine ((callsIn_wide (n := 5)).1 cS).mono ?_
  rintro e w' ⟨v, ss, rfl, hS, hrow, hnil, hb⟩
  have hpm := List.mergeSort_perm ss (fun x y => decide (x ≤ y))
  have hpw := List.pairwise_mergeSort (le := fun x y : Int => decide (x ≤ y)) (fun a b c h1 h2 => by simp only [decide_eq_true_eq] at *; omega) (fun a b => by simp only [Bool.or_eq_true, decide_eq_true_eq]; omega) ss
  generalize ss.mergeSort (fun x y => decide (x ≤ y)) = ks at hrow hpm hpw
  refine ⟨v, ks, rfl, hpm.trans (hS.trans hperm), hpw.imp (by intro a b h; simpa using h), ?_, Own.of_below hb (Nat.le_refl _)⟩
  have hsl : Sl (Tryz.laysSorted_ren.t 26) iL 1 (w.alloc (.cells #[.map (some m)] 60)).heap.size w' v ks := by
    unfold Sl
    rw [rowOf_iL, hpm.length_eq]
    exact hrow
  exact hsl.reads iL_len
end Go.Proofs.YtldagaliddgdjaaGreatDoor
