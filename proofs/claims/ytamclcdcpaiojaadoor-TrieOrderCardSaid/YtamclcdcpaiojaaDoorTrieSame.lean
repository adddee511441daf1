/- The laws' filters and hits: lists that are one are found so. -/
import Derived.Test.YtamclcdcpaiojaaDoorTrieActs
namespace Go.Proofs.YtamclcdcpaiojaaDoor
open Go.RowKit Go.Lib Go.Shelf Go.Sort

set_option maxRecDepth 100000 in
set_option maxHeartbeats 4000000 in
theorem sameF_any (A : List (ByteArray × Int)) (va vb : Value) (w : World) (hA : A.length ≤ 1000) (ha : Reads fEnc w va A) (hb : Reads fEnc w vb A) :
    Calls Tryd.prog 9 #[va, vb] w fun e w' => e = .returned (.bool true) ∧ Own [] w w' := by
  obtain ⟨aa, ca, rfl⟩ := ha.form
  obtain ⟨ab, cb, rfl⟩ := hb.form
  replace ha := Lib.hid ha
  replace hb := Lib.hid hb
  obtain ⟨n, hn⟩ : ∃ n, A.length = n := ⟨_, rfl⟩
  rw [hn]
  replace hn := Lib.hid hn
  obtain ⟨wo, hwo⟩ : ∃ wo : World, wo = w := ⟨_, rfl⟩
  rw [← hwo] at ha hb ⊢
  clear hwo
  go_enter Tryd.func9, Tryd.ntmps9
  go_wp2_with fail
  go_loopg [5] (n + 1) (fun g s5 wr => ∃ i : Nat, s5 = .int .i64 i ∧ g = n + 1 - i ∧ i ≤ n ∧ Own [] wo wr)
  case atStart => exact ⟨0, rfl, rfl, Nat.zero_le _, Own.refl _ _⟩
  case round =>
    obtain ⟨i, rfl, hg, hi, hO⟩ := hrel
    by_cases hlt : i < n
    · have hlA : i < A.length := by have := hn.out; omega
      obtain ⟨x, hx⟩ : ∃ x, A[i]? = some x := ⟨_, List.getElem?_eq_getElem hlA⟩
      have hra := ha.out.nil' hO
      have hrb := hb.out.nil' hO
      rw [hn.out] at hra hrb
      obtain ⟨b0, o0, rfl, hca⟩ := hra.at_ fEnc_len (by omega)
      obtain ⟨b1, o1, rfl, hcb⟩ := hrb.at_ fEnc_len (by omega)
      obtain ⟨x1, x2⟩ := x
      have d0 : wr.cell? ⟨b0, o0 + i * 2, none⟩ = some (.string x1) := by simpa using hca i _ 0 _ hx rfl
      have d1 : wr.cell? ⟨b0, o0 + i * 2 + 1, none⟩ = some (.int .i64 x2) := by rw [Nat.add_assoc]; exact hca i _ 1 _ hx rfl
      have e0 : wr.cell? ⟨b1, o1 + i * 2, none⟩ = some (.string x1) := by simpa using hcb i _ 0 _ hx rfl
      have e1 : wr.cell? ⟨b1, o1 + i * 2 + 1, none⟩ = some (.int .i64 x2) := by rw [Nat.add_assoc]; exact hcb i _ 1 _ hx rfl
      have hi1 : (i : Int) < n := by omega
      have hi0 : (0 : Int) ≤ i := by omega
      have hw1 : IntKind.i64.wrap ((i : Int) + 1) = (i : Int) + 1 := IntWalk.i64_in _ (by have := hn.out; omega)
      replace hO := Lib.hid hO
      replace hg := Lib.hid hg
      clear hca hcb hra hrb hx hlA
      go_wp2_with fail
      go_region
      all_goals
        go_wp2_with fail
        go_roundg (n + 1 - (i + 1))
        case measure => have := hg.out; omega
        case rel => exact ⟨i + 1, by simp, rfl, by omega, hO.out.drew⟩
    · have hi1 : ¬ (i : Int) < n := by omega
      replace hO := Lib.hid hO
      replace hg := Lib.hid hg
      go_wp2_with fail
      go_ret
      exact ⟨rfl, hO.out⟩
set_option maxRecDepth 100000 in
set_option maxHeartbeats 4000000 in
theorem sameH_any (A : List (Int × Int)) (va vb : Value) (w : World) (hA : A.length ≤ 1000) (ha : Reads hEnc w va A) (hb : Reads hEnc w vb A) :
    Calls Tryd.prog 11 #[va, vb] w fun e w' => e = .returned (.bool true) ∧ Own [] w w' := by
  obtain ⟨aa, ca, rfl⟩ := ha.form
  obtain ⟨ab, cb, rfl⟩ := hb.form
  replace ha := Lib.hid ha
  replace hb := Lib.hid hb
  obtain ⟨n, hn⟩ : ∃ n, A.length = n := ⟨_, rfl⟩
  rw [hn]
  replace hn := Lib.hid hn
  obtain ⟨wo, hwo⟩ : ∃ wo : World, wo = w := ⟨_, rfl⟩
  rw [← hwo] at ha hb ⊢
  clear hwo
  go_enter Tryd.func11, Tryd.ntmps11
  go_wp2_with fail
  go_loopg [5] (n + 1) (fun g s5 wr => ∃ i : Nat, s5 = .int .i64 i ∧ g = n + 1 - i ∧ i ≤ n ∧ Own [] wo wr)
  case atStart => exact ⟨0, rfl, rfl, Nat.zero_le _, Own.refl _ _⟩
  case round =>
    obtain ⟨i, rfl, hg, hi, hO⟩ := hrel
    by_cases hlt : i < n
    · have hlA : i < A.length := by have := hn.out; omega
      obtain ⟨x, hx⟩ : ∃ x, A[i]? = some x := ⟨_, List.getElem?_eq_getElem hlA⟩
      have hra := ha.out.nil' hO
      have hrb := hb.out.nil' hO
      rw [hn.out] at hra hrb
      obtain ⟨b0, o0, rfl, hca⟩ := hra.at_ hEnc_len (by omega)
      obtain ⟨b1, o1, rfl, hcb⟩ := hrb.at_ hEnc_len (by omega)
      obtain ⟨x1, x2⟩ := x
      have d0 : wr.cell? ⟨b0, o0 + i * 2, none⟩ = some (.int .i64 x1) := by simpa using hca i _ 0 _ hx rfl
      have d1 : wr.cell? ⟨b0, o0 + i * 2 + 1, none⟩ = some (.int .i64 x2) := by rw [Nat.add_assoc]; exact hca i _ 1 _ hx rfl
      have e0 : wr.cell? ⟨b1, o1 + i * 2, none⟩ = some (.int .i64 x1) := by simpa using hcb i _ 0 _ hx rfl
      have e1 : wr.cell? ⟨b1, o1 + i * 2 + 1, none⟩ = some (.int .i64 x2) := by rw [Nat.add_assoc]; exact hcb i _ 1 _ hx rfl
      have hi1 : (i : Int) < n := by omega
      have hi0 : (0 : Int) ≤ i := by omega
      have hw1 : IntKind.i64.wrap ((i : Int) + 1) = (i : Int) + 1 := IntWalk.i64_in _ (by have := hn.out; omega)
      replace hO := Lib.hid hO
      replace hg := Lib.hid hg
      clear hca hcb hra hrb hx hlA
      go_wp2_with fail
      go_region
      all_goals
        go_wp2_with fail
        go_roundg (n + 1 - (i + 1))
        case measure => have := hg.out; omega
        case rel => exact ⟨i + 1, by simp, rfl, by omega, hO.out.drew⟩
    · have hi1 : ¬ (i : Int) < n := by omega
      replace hO := Lib.hid hO
      replace hg := Lib.hid hg
      go_wp2_with fail
      go_ret
      exact ⟨rfl, hO.out⟩
end Go.Proofs.YtamclcdcpaiojaaDoor
