/- No text of the cut starts a goroutine. -/
import Derived.Test.YtacbahmmmndmbaaGreatDoorRows
import Derived.ProofKit
import GoSem.ClaimGoes
namespace Go.Proofs.YtacbahmmmndmbaaGreatDoor
open Go
theorem goes_none {P : Program} {f : FuncId} (h : ∀ g : Nat, (P.funcs[g]?).any Func.goes = false) : P.goes f = false := by
  unfold Program.goes
  have h1 : ((P.closure f).any fun g => (P.funcs[g]?).any Func.goes) = false := by
    rw [List.any_eq_false]; intro g _; rw [h g]; simp
  have h2 : P.funcs.any Func.goes = false := by
    rw [Array.any_eq_false]; intro i hi
    have := h i
    rw [Array.getElem?_eq_getElem hi] at this
    simpa using this
  rw [h1, h2]; simp
theorem goesBy_none {P : Program} {c : OpenClaim} (hs : c.start = .entering) (h : ∀ g : Nat, (P.funcs[g]?).any Func.goes = false) : c.goesBy P = false := by
  unfold OpenClaim.goesBy Program.goesAt Program.goesFrom
  rw [hs]
  cases P.funcNamed c.func <;> simp [Option.any, goes_none h]
set_option maxRecDepth 1000000
theorem bg_c0 : (List.range' 0 60).all (fun g => !(Tryz.prog.funcs[g]?).any Func.goes) = true := by kernel_rfl
theorem bg_c1 : (List.range' 60 60).all (fun g => !(Tryz.prog.funcs[g]?).any Func.goes) = true := by kernel_rfl
theorem bg_c2 : (List.range' 120 60).all (fun g => !(Tryz.prog.funcs[g]?).any Func.goes) = true := by kernel_rfl
theorem bg_c3 : (List.range' 180 60).all (fun g => !(Tryz.prog.funcs[g]?).any Func.goes) = true := by kernel_rfl
theorem bg_c4 : (List.range' 240 60).all (fun g => !(Tryz.prog.funcs[g]?).any Func.goes) = true := by kernel_rfl
theorem bg_c5 : (List.range' 300 60).all (fun g => !(Tryz.prog.funcs[g]?).any Func.goes) = true := by kernel_rfl
theorem bg_c6 : (List.range' 360 60).all (fun g => !(Tryz.prog.funcs[g]?).any Func.goes) = true := by kernel_rfl
theorem bg_c7 : (List.range' 420 60).all (fun g => !(Tryz.prog.funcs[g]?).any Func.goes) = true := by kernel_rfl
theorem bg_c8 : (List.range' 480 60).all (fun g => !(Tryz.prog.funcs[g]?).any Func.goes) = true := by kernel_rfl
theorem bg_c9 : (List.range' 540 60).all (fun g => !(Tryz.prog.funcs[g]?).any Func.goes) = true := by kernel_rfl
theorem bg_c10 : (List.range' 600 60).all (fun g => !(Tryz.prog.funcs[g]?).any Func.goes) = true := by kernel_rfl
theorem bg_c11 : (List.range' 660 60).all (fun g => !(Tryz.prog.funcs[g]?).any Func.goes) = true := by kernel_rfl
theorem bg_c12 : (List.range' 720 41).all (fun g => !(Tryz.prog.funcs[g]?).any Func.goes) = true := by kernel_rfl
theorem bg_size : Tryz.prog.funcs.size = 761 := by kernel_rfl
theorem bg_all (g : Nat) : (Tryz.prog.funcs[g]?).any Func.goes = false := by
  have hs := bg_size
  have key : ∀ a c, (List.range' a c).all (fun g => !(Tryz.prog.funcs[g]?).any Func.goes) = true → a ≤ g → g < a + c → (Tryz.prog.funcs[g]?).any Func.goes = false := by
    intro a c h h1 h2
    have := List.all_eq_true.mp h g (List.mem_range'_1.mpr ⟨h1, h2⟩)
    simpa using this
  by_cases q0 : g < 60
  · exact key _ _ bg_c0 (by omega) (by omega)
  by_cases q1 : g < 120
  · exact key _ _ bg_c1 (by omega) (by omega)
  by_cases q2 : g < 180
  · exact key _ _ bg_c2 (by omega) (by omega)
  by_cases q3 : g < 240
  · exact key _ _ bg_c3 (by omega) (by omega)
  by_cases q4 : g < 300
  · exact key _ _ bg_c4 (by omega) (by omega)
  by_cases q5 : g < 360
  · exact key _ _ bg_c5 (by omega) (by omega)
  by_cases q6 : g < 420
  · exact key _ _ bg_c6 (by omega) (by omega)
  by_cases q7 : g < 480
  · exact key _ _ bg_c7 (by omega) (by omega)
  by_cases q8 : g < 540
  · exact key _ _ bg_c8 (by omega) (by omega)
  by_cases q9 : g < 600
  · exact key _ _ bg_c9 (by omega) (by omega)
  by_cases q10 : g < 660
  · exact key _ _ bg_c10 (by omega) (by omega)
  by_cases q11 : g < 720
  · exact key _ _ bg_c11 (by omega) (by omega)
  by_cases q12 : g < 761
  · exact key _ _ bg_c12 (by omega) (by omega)
  · rw [Array.getElem?_eq_none (by omega)]; rfl
theorem az_goes : false = Rows.auditZeroRow.goesBy Tryz.pinned.checked.prog := (goesBy_none (P := Tryz.prog) rfl bg_all).symm
end Go.Proofs.YtacbahmmmndmbaaGreatDoor
