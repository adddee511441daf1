/- The law's own little run, and plain facts. -/
import Derived.Test.YtjbmmgclkhigiaaAliasSet
namespace Go.Proofs.Ytjbmmgclkhigiaa
open Go.RowKit

/-- The aliases of some items. -/
def wantOf (ow : ByteArray) (L : List Itm) : ATab := (L.filter (·.has)).map fun x => (x.al, (ow, x.name))
theorem aFresh_eq (ow : ByteArray) : ∀ (L : List Itm) (acc want : ATab), aFresh ow L acc = some want → want = acc ++ wantOf ow L
  | [], acc, want, h => by simp [aFresh] at h; subst h; simp [wantOf]
  | x :: r, acc, want, h => by
    unfold aFresh at h
    split at h
    · rename_i hx
      split at h
      · cases h
      · have := aFresh_eq ow r _ want h
        rw [this]
        simp [wantOf, hx]
    · rename_i hx
      have := aFresh_eq ow r _ want h
      rw [this]
      simp [wantOf, hx]
theorem aOthers_own {T : ATab} {ow : ByteArray} (h : ∀ p ∈ T, p.2.1 = ow) : aOthers T ow = [] := by
  unfold aOthers
  rw [List.filter_eq_nil_iff]
  intro p hp
  simp [h p hp]
theorem aMay_own {T : ATab} {ow : ByteArray} (h : ∀ p ∈ T, p.2.1 = ow) (L : List Itm) : aMay T ow L = aMay [] ow L := by
  unfold aMay aClash
  rw [aOthers_own h, aOthers_own (T := []) (by simp)]
theorem aMay_own_ok {ow : ByteArray} {L : List Itm} (h : (aMay [] ow L).1 = 0) : (aMay [] ow L).2 = wantOf ow L ∧ (wantOf ow L).length ≤ 64 := by
  unfold aMay at h ⊢
  cases hf : aFresh ow L [] with
  | none => rw [hf] at h; simp at h
  | some want =>
    have e := aFresh_eq ow L [] want hf
    simp only [List.nil_append] at e
    rw [hf] at h
    simp only [aClash, aOthers_own (T := []) (ow := ow) (by simp), List.any_nil, Bool.false_eq_true, if_false, List.length_nil, Nat.zero_add] at h ⊢
    by_cases hl : 64 < want.length
    · rw [if_pos hl] at h; simp at h
    · rw [if_neg hl]
      exact ⟨e, by rw [← e]; omega⟩
theorem aMay_len {l : ATab} {ow : ByteArray} {L : List Itm} (h : (aMay l ow L).1 = 0) : (aOthers l ow).length + (aMay l ow L).2.length ≤ 64 := by
  unfold aMay at h ⊢
  cases hf : aFresh ow L [] with
  | none => rw [hf] at h; simp at h
  | some want =>
    rw [hf] at h
    cases hc : aClash l ow want with
    | true => simp [hc] at h
    | false =>
      simp only [hc, Bool.false_eq_true, if_false] at h ⊢
      by_cases hl : 64 < (aOthers l ow).length + want.length
      · rw [if_pos hl] at h; simp at h
      · rw [if_neg hl]; simp only; omega
theorem aSet_len {l : ATab} {ow : ByteArray} {L : List Itm} (h : l.length ≤ 64) : (aSet l ow L).2.length ≤ 64 := by
  unfold aSet
  split
  · rename_i h0; simp only [List.length_append]; exact aMay_len h0
  · exact h
theorem wantOf_own (ow : ByteArray) (L : List Itm) : ∀ p ∈ wantOf ow L, p.2.1 = ow := by
  intro p hp
  obtain ⟨x, _, rfl⟩ := List.mem_map.1 hp
  rfl
theorem aSet_own {T : ATab} {ow : ByteArray} (h : ∀ p ∈ T, p.2.1 = ow) (L : List Itm) : aSet T ow L = if (aMay [] ow L).1 = 0 then (0, wantOf ow L) else ((aMay [] ow L).1, T) := by
  unfold aSet
  rw [aMay_own h, aOthers_own h]
  split
  · rename_i h0; rw [(aMay_own_ok h0).1]; rfl
  · rfl
theorem aSet_own_all {T : ATab} {ow : ByteArray} (h : ∀ p ∈ T, p.2.1 = ow) (L : List Itm) : ∀ p ∈ (aSet T ow L).2, p.2.1 = ow := by
  rw [aSet_own h]
  split
  · exact wantOf_own ow L
  · exact h

theorem set_eq {b m : Nat} {l : ATab} {ow : ByteArray} {a : Option Addr} {n : Nat} {its : Nat → Itm} {r : Int × ATab} (he : aSet l ow (itList n its) = r) (c : Nat) (w : World) (h : Tab w b m l) (hA : ItemRow w a n its) (hcap : l.length ≤ 1000000) :
    Calls Try.prog 9 #[.pointer (some ⟨b, 0, none⟩), .string ow, .slice a n c] w fun e w' =>
      e = .returned (.int .i64 r.1) ∧ Tab w' b m r.2 ∧ Own [m] w w' := he ▸ set_any b m l ow a n c its w h hA hcap
theorem find_eq {b m : Nat} {l : ATab} {ow : ByteArray} {a : Int} {r : ByteArray × Bool} (he : aFind l ow a = r) (w : World) (h : Tab w b m l) :
    Calls Try.prog 10 #[.pointer (some ⟨b, 0, none⟩), .string ow, .int .u64 a] w fun e w' => e = .returned (.tuple #[.string r.1, .bool r.2]) ∧ Own [] w w' := he ▸ find_any b m l ow a w h
theorem itemRow_one (w : World) (x : Itm) (hx : x.wf) (T : TypeId) (b : Nat) (h : w.heap[b]? = some (.cells x.cells.toArray T (0, 0))) : ItemRow w (some ⟨b, 0, none⟩) 1 (fun _ => x) := by
  refine ⟨by omega, fun _ => ⟨b, 0, rfl, lt_of_heap h, fun i hi => ⟨hx, fun j v hj => ?_⟩⟩⟩
  obtain rfl : i = 0 := by omega
  rw [cell_of_row w b _ _ _ _ h]
  simpa using hj

theorem awake_any (w : World) : Calls Try.prog 7 #[] w fun e w' => e = .returned (.bool true) ∧ Own [] w w' := by
  go_enter Try.func7, Try.ntmps7
  go_wp2_with fail
  refine (new_any _).mono ?_
  rintro e w1 ⟨b, m, rfl, hT, hb, hm, hO⟩
  have e1 : aSet [] ⟨#[]⟩ (itList 1 fun _ => ⟨⟨#[120]⟩, true, 1, 0, false, 0, 0, ⟨#[]⟩⟩) = (0, [(1, (⟨#[]⟩, ⟨#[120]⟩))]) := by decide +kernel
  have e2 : aSet [(1, (⟨#[]⟩, ⟨#[120]⟩))] ⟨#[100]⟩ (itList 1 fun _ => ⟨⟨#[121]⟩, true, 1, 0, false, 0, 0, ⟨#[]⟩⟩) = (16, [(1, (⟨#[]⟩, ⟨#[120]⟩))]) := by decide +kernel
  have e3 : aFind [(1, (⟨#[]⟩, ⟨#[120]⟩))] ⟨#[]⟩ 1 = (⟨#[120]⟩, true) := by decide +kernel
  have hA1 := itemRow_one (w1.alloc (.cells #[.string ⟨#[120]⟩, .bool true, .int .u64 1, .int .u32 0, .bool false, .int .i64 0, .int .u64 0, .string ⟨#[]⟩] 33)) ⟨⟨#[120]⟩, true, 1, 0, false, 0, 0, ⟨#[]⟩⟩ (by simp [Itm.wf]) 33 w1.heap.size (heap_alloc_new _ _)
  have S1 := Lib.hid (set_eq e1 1 _ (hT.own ((Own.refl [] _).alloc _) (by simp) (by simp)) hA1 (by simp))
  replace hO := hO.alloc (.cells #[.string ⟨#[120]⟩, .bool true, .int .u64 1, .int .u32 0, .bool false, .int .i64 0, .int .u64 0, .string ⟨#[]⟩] 33)
  clear e1 hA1 hT
  go_wp2_with fail
  refine S1.out.mono ?_
  rintro e w2 ⟨rfl, hT2, hO2⟩
  have hA2 := itemRow_one (w2.alloc (.cells #[.string ⟨#[121]⟩, .bool true, .int .u64 1, .int .u32 0, .bool false, .int .i64 0, .int .u64 0, .string ⟨#[]⟩] 33)) ⟨⟨#[121]⟩, true, 1, 0, false, 0, 0, ⟨#[]⟩⟩ (by simp [Itm.wf]) 33 w2.heap.size (heap_alloc_new _ _)
  have S2 := Lib.hid (set_eq e2 1 _ (hT2.own ((Own.refl [] _).alloc _) (by simp) (by simp)) hA2 (by simp))
  replace hO2 := hO2.alloc (.cells #[.string ⟨#[121]⟩, .bool true, .int .u64 1, .int .u32 0, .bool false, .int .i64 0, .int .u64 0, .string ⟨#[]⟩] 33)
  clear e2 hA2 hT2 S1
  go_wp2_with fail
  refine S2.out.mono ?_
  rintro e w3 ⟨rfl, hT3, hO3⟩
  have F := Lib.hid (find_eq e3 _ hT3)
  have L := Lib.hid (fun w4 (h : Own [] w3 w4) => len_any b m _ w4 (hT3.own h (by simp) (by simp)))
  clear hT3 S2 e3
  go_wp2_with fail
  refine F.out.mono ?_
  rintro e w4 ⟨rfl, hO4⟩
  go_wp2_with fail
  refine (L.out _ hO4).mono ?_
  rintro e w5 ⟨rfl, rfl⟩
  go_wp2_with fail
  go_ret
  exact ⟨rfl, hO.trans' ((hO2.trans hO3).trans hO4.nil) (by simp; omega)⟩
end Go.Proofs.Ytjbmmgclkhigiaa
