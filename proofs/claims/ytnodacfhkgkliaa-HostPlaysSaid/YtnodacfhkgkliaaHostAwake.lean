/- The law's own little run: hosts.New, Take, Online, Len at one host. -/
import Derived.Test.YtnodacfhkgkliaaHost
namespace Go.Proofs.Ytnodacfhkgkliaa
open Go.RowKit
theorem awake_any (w : World) : Calls Try.prog 10 #[] w fun e w' => e = .returned (.bool true) ∧ Own [] w w' := by
  have e1 : hTake [] ⟨#[104]⟩ ⟨#[79, 78, 76, 73, 78, 69]⟩ = (1, [(⟨#[104]⟩, true)]) := by decide +kernel
  have e2 : hOn [(⟨#[104]⟩, true)] ⟨#[104]⟩ = (true, true) := by decide +kernel
  go_enter Try.func10, Try.ntmps10
  go_wp2_with fail
  refine (new_any _).mono ?_
  rintro e w1 ⟨b, m, rfl, hH, hb, hm, hO⟩
  have hT := take_any b m _ w1 ⟨#[104]⟩ ⟨#[79, 78, 76, 73, 78, 69]⟩ hH
  rw [e1] at hT
  go_wp2_with fail
  refine hT.mono ?_
  rintro e w2 ⟨rfl, hH2, hO2⟩
  have hN := online_any b m _ w2 ⟨#[104]⟩ hH2
  rw [e2] at hN
  have hL := len_any b m _ w2 hH2
  clear hT e1 e2
  go_wp2_with fail
  refine hN.mono ?_
  rintro e w3 ⟨rfl, rfl⟩
  go_wp2_with fail
  refine hL.mono ?_
  rintro e w3 ⟨rfl, rfl⟩
  go_wp2_with fail
  go_ret
  exact ⟨rfl, hO.trans' hO2 (by simp; omega)⟩
end Go.Proofs.Ytnodacfhkgkliaa
