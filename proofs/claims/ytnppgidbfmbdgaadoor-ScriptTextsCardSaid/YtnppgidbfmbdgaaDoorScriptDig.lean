/- Scripts (chapter 40): a number's digits. -/
import Derived.Test.YtnppgidbfmbdgaaDoorScriptNum
import Derived.Lib.ItoaNum
import Derived.Deep.LoopGhost
set_option linter.unusedSimpArgs false
set_option linter.unusedVariables false
namespace Go.Proofs.YtnppgidbfmbdgaaDoor
open Go.RowKit

theorem dec_small {u : Nat} (h : u < 10) : Lib.decDigits u = [UInt8.ofNat (48 + u)] := by rw [Lib.decDigits, dif_pos h]
theorem dec_big {u : Nat} (h : ¬ u < 10) : Lib.decDigits u = Lib.decDigits (u / 10) ++ [UInt8.ofNat (48 + u % 10)] := by rw [Lib.decDigits, dif_neg h]
/-- 'string([]byte{x})'. -/
theorem conv1 {P : Program} {src e dst : TypeId} (hs : P.underlying src = some (.slice e)) (he : P.underlying e = some (.int .u8)) (hd : P.underlying dst = some .string) (w : World) (x : Int) (T : TypeId) :
    (convert src dst (.slice (some ⟨w.heap.size, 0, none⟩) 1 1)).run P (w.alloc (.cells #[.int .u8 x] T)) = .ok (.string (strOfNums [x])) (w.alloc (.cells #[.int .u8 x] T)) :=
  run_convert_bytes_arg _ src e hs he w.heap.size 0 1 1 [x] rfl (fun i hi => by
    match i, hi with
    | 0, _ => simp) dst hd
theorem dig_app (x : Nat) (t : List UInt8) : strOfNums [48 + (x : Int) % 10] ++ (⟨t.toArray⟩ : ByteArray) = ⟨(UInt8.ofNat (48 + x % 10) :: t).toArray⟩ := by
  apply ByteArray.ext
  apply Array.ext'
  rw [ByteArray.data_append]
  simp only [Array.toList_append, strOfNums_data, List.map_cons, List.map_nil]
  rw [show (48 + (x : Int) % 10).toNat = 48 + x % 10 by omega]
  rfl
set_option maxRecDepth 100000 in
set_option maxHeartbeats 4000000 in
theorem digits_any (n : Nat) (hn : n ≤ 1073741824) (w : World) : Calls Tryd.prog 21 #[.int .i64 n] w fun e w' => e = .returned (.string ⟨(Lib.decDigits n).toArray⟩) ∧ Own [] w w' := by
  go_enter Tryd.func21, Tryd.ntmps21
  go_wp2_with fail
  go_loopg [3, 4] n (fun g s3 s4 wr => ∃ (x : Nat) (t : List UInt8), s3 = .string ⟨t.toArray⟩ ∧ s4 = .int .i64 x ∧ x = g ∧ t.length + x ≤ n ∧ Aside (Lib.decDigits n = Lib.decDigits x ++ t ∧ Own [] w wr))
  case atStart => exact ⟨n, [], rfl, rfl, rfl, by simp, by simp, Own.refl _ _⟩
  case round =>
    obtain ⟨x, t, rfl, rfl, rfl, hx, hD, hO⟩ := hrel
    have hc := conv1 Tryd.underlying57 Tryd.underlying5 Tryd.underlying9 wr (48 + (x : Int) % 10) 5
    have ha := dig_app x t
    have hsz : ¬ 9223372036854775807 < (strOfNums [48 + (x : Int) % 10]).size + t.length := by rw [strOfNums_size]; simp; omega
    obtain ⟨d, hd⟩ : ∃ d, UInt8.ofNat (48 + x % 10) = d := ⟨_, rfl⟩
    rw [hd] at ha
    have m2 : (x : Int).tdiv 10 = (x : Int) / 10 := Int.tdiv_eq_ediv_of_nonneg (by omega)
    have m5 : IntKind.i64.wrap ((x : Int) / 10) = (x : Int) / 10 := IntWalk.i64_in _ (by omega)
    have hO2 := Lib.hid (hO.alloc (.cells #[.int .u8 (48 + (x : Int) % 10)] 5))
    by_cases hs : x < 10
    · have e1 : x % 10 = x := by omega
      rw [dec_small hs] at hD
      rw [e1] at hd
      have hD2 := Lib.hid (show Lib.decDigits n = d :: t by rw [hD, hd]; rfl)
      have q1 : ((x : Int) / 10 == 0) = true := by simp; omega
      clear hD hO e1 hd
      go_wp2_with fail
      go_ret
      exact ⟨by rw [hD2.out]; rfl, hO2.out⟩
    · rw [dec_big hs] at hD
      have hD2 := Lib.hid (show Lib.decDigits n = Lib.decDigits (x / 10) ++ (d :: t) by rw [hD, hd]; simp)
      have q1 : ((x : Int) / 10 == 0) = false := by simp; omega
      clear hD hO hd
      go_wp2_with fail
      go_roundg (x / 10)
      case measure => omega
      case rel => exact ⟨x / 10, d :: t, by first | rfl | simp [ha], by first | rfl | simp, rfl, by simp; omega, hD2.out, hO2.out⟩
end Go.Proofs.YtnppgidbfmbdgaaDoor
