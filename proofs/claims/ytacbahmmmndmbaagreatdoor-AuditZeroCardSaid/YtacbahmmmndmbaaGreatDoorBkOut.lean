/- The program's types are laid out: in chunks. -/
import Derived.Test.YtacbahmmmndmbaaGreatDoorChecked
import Derived.ProofKit
namespace Go.Proofs.YtacbahmmmndmbaaGreatDoor
open Go
theorem bo_c0 : (List.range' 0 60).all (rowFine Tryz.prog) = true := by kernel_rfl
theorem bo_c1 : (List.range' 60 60).all (rowFine Tryz.prog) = true := by kernel_rfl
theorem bo_c2 : (List.range' 120 60).all (rowFine Tryz.prog) = true := by kernel_rfl
theorem bo_c3 : (List.range' 180 60).all (rowFine Tryz.prog) = true := by kernel_rfl
theorem bo_c4 : (List.range' 240 60).all (rowFine Tryz.prog) = true := by kernel_rfl
theorem bo_c5 : (List.range' 300 60).all (rowFine Tryz.prog) = true := by kernel_rfl
theorem bo_c6 : (List.range' 360 60).all (rowFine Tryz.prog) = true := by kernel_rfl
theorem bo_c7 : (List.range' 420 60).all (rowFine Tryz.prog) = true := by kernel_rfl
theorem bo_c8 : (List.range' 480 60).all (rowFine Tryz.prog) = true := by kernel_rfl
theorem bo_c9 : (List.range' 540 60).all (rowFine Tryz.prog) = true := by kernel_rfl
theorem bo_c10 : (List.range' 600 60).all (rowFine Tryz.prog) = true := by kernel_rfl
theorem bo_c11 : (List.range' 660 60).all (rowFine Tryz.prog) = true := by kernel_rfl
theorem bo_c12 : (List.range' 720 60).all (rowFine Tryz.prog) = true := by kernel_rfl
theorem bo_c13 : (List.range' 780 60).all (rowFine Tryz.prog) = true := by kernel_rfl
theorem bo_c14 : (List.range' 840 49).all (rowFine Tryz.prog) = true := by kernel_rfl
theorem bo_glob : Tryz.prog.globals.all (fun g => decide (g.type < Tryz.prog.types.size)) = true := by kernel_rfl
theorem bo_fun : Tryz.prog.funcs.all (fun f => f.params.all fun t => decide (t < Tryz.prog.types.size)) = true := by kernel_rfl
theorem bo_size : Tryz.prog.types.size = 889 := by kernel_rfl
theorem bo_chunk {p : Nat → Bool} {a l : Nat} (h : (List.range' a l).all p = true) {i : Nat} (h1 : a ≤ i) (h2 : i < a + l) : p i = true :=
  List.all_eq_true.1 h i (List.mem_range'_1.2 ⟨h1, h2⟩)
theorem bo_all : laidOutB Tryz.prog = true := by
  unfold laidOutB
  rw [bo_glob, bo_fun, bo_size]
  simp only [Bool.and_true]
  refine List.all_eq_true.2 fun i hi => ?_
  have hi' : i < 889 := List.mem_range.1 hi
  by_cases h0 : i < 60
  · exact bo_chunk bo_c0 (by omega) h0
  by_cases h1 : i < 120
  · exact bo_chunk bo_c1 (by omega) h1
  by_cases h2 : i < 180
  · exact bo_chunk bo_c2 (by omega) h2
  by_cases h3 : i < 240
  · exact bo_chunk bo_c3 (by omega) h3
  by_cases h4 : i < 300
  · exact bo_chunk bo_c4 (by omega) h4
  by_cases h5 : i < 360
  · exact bo_chunk bo_c5 (by omega) h5
  by_cases h6 : i < 420
  · exact bo_chunk bo_c6 (by omega) h6
  by_cases h7 : i < 480
  · exact bo_chunk bo_c7 (by omega) h7
  by_cases h8 : i < 540
  · exact bo_chunk bo_c8 (by omega) h8
  by_cases h9 : i < 600
  · exact bo_chunk bo_c9 (by omega) h9
  by_cases h10 : i < 660
  · exact bo_chunk bo_c10 (by omega) h10
  by_cases h11 : i < 720
  · exact bo_chunk bo_c11 (by omega) h11
  by_cases h12 : i < 780
  · exact bo_chunk bo_c12 (by omega) h12
  by_cases h13 : i < 840
  · exact bo_chunk bo_c13 (by omega) h13
  by_cases h14 : i < 889
  · exact bo_chunk bo_c14 (by omega) h14
  omega
end Go.Proofs.YtacbahmmmndmbaaGreatDoor
