/- EdgeZero: a node that nobody made takes nothing. -/
import Derived.Test.YtjfmbjgniajagaaGreatDoorChecked
import Derived.Test.YtjfmbjgniajagaaGreatDoorBase
import Derived.Test.YtjfmbjgniajagaaGreatDoorFlat
import Derived.OpenShut
import Derived.Deep.DeepHandedRow
import Derived.ProofKit
import Derived.Below
import Derived.Deep.QuietTactic
import Derived.BigQuiet
import Derived.StillTailTactics
import Derived.Deep.LoopGhost
namespace Go.Proofs.YtjfmbjgniajagaaGreatDoor
open Go.RowKit Go.ChangeShapes Go.WideShapes

/-- A payload as it comes in. -/
def payVal (t : Int) (h : Bool) (s : Int) (u b : ByteArray) (m : Option Addr × Nat × Nat) : Value := .agg #[.int .u64 t, .bool h, .int .u64 s, .string u, .string b, .slice m.1 m.2.1 m.2.2]
def payKinds : List CK := [.int .u64, .bool, .int .u64, .str, .str, .sl]
theorem pay_flat : flat Tryz.prog 3 39 = some payKinds := by kernel_rfl
set_option maxRecDepth 100000 in
theorem open_pay {H : Type} {enc : TypeId × Value → H} {w : World} {r : Reach} {b0 : Nat} {fuel : Nat} {v : Value} {x : DataW H × List MemPlace} (hv : Value.okWide Tryz.prog w r b0 39 v)
    (h : DataW.trod enc Tryz.prog w 0 (fun _ => true) true fuel 39 (Value.cells v).toList = some x) : ∃ a : (Int × Bool × Int × ByteArray × ByteArray × (Option Addr × Nat × Nat)), v = payVal a.1 a.2.1 a.2.2.1 a.2.2.2.1 a.2.2.2.2.1 a.2.2.2.2.2 := by
  obtain ⟨cs, rfl, _⟩ := okWide_struct Tryz.underlying39 hv
  have hf := flat_fits 3 pay_flat h
  obtain ⟨hl, hf⟩ := hf
  simp [Value.cells] at hl hf
  obtain ⟨l, hcs⟩ : ∃ l : List Value, cs = l.toArray := ⟨cs.toList, by simp⟩
  subst hcs
  match l, hl with
  | [v0, v1, v2, v3, v4, v5], _ =>
    obtain ⟨n0, rfl, _⟩ := hf 0 _ _ rfl rfl
    obtain ⟨b1, rfl⟩ := hf 1 _ _ rfl rfl
    obtain ⟨n2, rfl, _⟩ := hf 2 _ _ rfl rfl
    obtain ⟨s3, rfl, _⟩ := hf 3 _ _ rfl rfl
    obtain ⟨s4, rfl, _⟩ := hf 4 _ _ rfl rfl
    obtain ⟨x, y, z, rfl⟩ := hf 5 _ _ rfl rfl
    exact ⟨(n0, b1, n2, s3, s4, (x, y, z)), rfl⟩

set_option maxRecDepth 100000 in
set_option maxHeartbeats 4000000 in
theorem awake_any (w : World) : Calls Tryz.prog 13 #[] w fun e w' => e = .returned (.bool true) ∧ Own [] w w' := by
  have hmm := @run_makeMap Tryz.prog
  go_enter Tryz.func13, Tryz.ntmps13
  go_wp2_with go_in
  go_ret
  refine ⟨rfl, ?_⟩
  repeat (first | exact Own.refl _ _ | (refine Own.setCell ?_ (by simp; omega) _) | refine Own.alloc ?_ _ | refine Own.drew ?_)

/-- A view of nothing. -/
def zeroView : Value := .agg #[.string ⟨#[]⟩, .string ⟨#[]⟩, .bool false, .int .i64 0, .int .i64 0, .bool false, .slice none 0 0, .slice none 0 0]
set_option maxRecDepth 100000 in
set_option maxHeartbeats 4000000 in
theorem view_nil (w : World) : Calls Tryz.prog 12 #[.pointer none] w fun e w' => e = .returned zeroView ∧ Own [] w w' := by
  go_enter Tryz.func12, Tryz.ntmps12
  go_wp2_with go_in
  refine bodyPost_ret (v := zeroView) (by simp [results, Tryz.results12, go_sem, zeroView]) rfl ⟨rfl, ?_⟩
  repeat (first | exact Own.refl _ _ | (refine Own.setCell ?_ (by simp; try omega) _) | refine Own.alloc ?_ _ | refine Own.drew ?_)
set_option maxRecDepth 100000 in
set_option maxHeartbeats 4000000 in
theorem view_zero (z : Nat) (w : World) (h : w.cell? ⟨z, 4, none⟩ = some (.pointer none)) : Calls Tryz.prog 12 #[.pointer (some ⟨z, 0, none⟩)] w fun e w' => e = .returned zeroView ∧ Own [] w w' := by
  have hz := block_lt_of_cell h
  have hK : ∀ o, (w.alloc o).cell? ⟨z, 4, none⟩ = some (.pointer none) := fun o => (World.cell?_alloc_lt _ _ _ hz).trans h
  go_enter Tryz.func12, Tryz.ntmps12
  go_wp2_with go_in
  refine bodyPost_ret (v := zeroView) (by simp [results, Tryz.results12, go_sem, zeroView]) rfl ⟨rfl, ?_⟩
  repeat (first | exact Own.refl _ _ | (refine Own.setCell ?_ (by simp; try omega) _) | refine Own.alloc ?_ _ | refine Own.drew ?_)
set_option maxRecDepth 100000 in
set_option maxHeartbeats 4000000 in
theorem same_nil (w : World) : Calls Tryz.prog 30 #[.slice none 0 0, .slice none 0 0] w fun e w' => e = .returned (.bool true) ∧ w = w' := by
  go_enter Tryz.func30, Tryz.ntmps30
  go_wp2_with fail
  go_loopg [5] 1 (fun g s5 wr => g = 1 ∧ s5 = .int .i64 0 ∧ wr = w)
  case atStart => exact ⟨rfl, rfl, rfl⟩
  case round =>
    obtain ⟨rfl, rfl, rfl⟩ := hrel
    go_wp2_with fail
    go_ret
    exact ⟨rfl, rfl⟩
set_option maxRecDepth 100000 in
set_option maxHeartbeats 4000000 in
theorem same_zero (w : World) : Calls Tryz.prog 16 #[zeroView, zeroView] w fun e w' => e = .returned (.bool true) ∧ Own [] w w' := by
  have S := Lib.hid (fun W => same_nil W)
  unfold zeroView
  go_enter Tryz.func16, Tryz.ntmps16
  go_wp2_with (go_at_call 30; refine (S.out _).mono ?_; rintro e w' ⟨rfl, rfl⟩)
  go_loopg [5] 1 (fun g s5 wr => g = 1 ∧ s5 = .int .i64 0 ∧ wr = (w.alloc (.cells #[.string ⟨#[]⟩, .string ⟨#[]⟩, .bool false, .int .i64 0, .int .i64 0, .bool false, .slice none 0 0, .slice none 0 0] 45)).alloc (.cells #[.string ⟨#[]⟩, .string ⟨#[]⟩, .bool false, .int .i64 0, .int .i64 0, .bool false, .slice none 0 0, .slice none 0 0] 45))
  case atStart => exact ⟨rfl, rfl, rfl⟩
  case round =>
    obtain ⟨rfl, rfl, rfl⟩ := hrel
    go_wp2_with fail
    go_ret
    exact ⟨rfl, ((Own.refl _ _).alloc _).alloc _⟩

set_option maxRecDepth 100000 in
set_option maxHeartbeats 4000000 in
theorem edgeZero_walk (k : Int) (p : Int × Bool × Int × ByteArray × ByteArray × (Option Addr × Nat × Nat)) (w : World) (_hw : (Lit.int .i64 k).wf = true) (_ht : True) :
    Calls Tryz.prog 8 #[.int .i64 k, payVal p.1 p.2.1 p.2.2.1 p.2.2.2.1 p.2.2.2.2.1 p.2.2.2.2.2] w fun e w' => e = .returned (.bool true) ∧ Below w.heap.size w w' := by
  obtain ⟨t, h, s, u, b, m⟩ := p
  simp only [payVal]
  have AW := Lib.hid (fun W => awake_any W)
  go_enter Tryz.func8, Tryz.ntmps8
  have VN := (fun W => view_nil W)
  have SZ := (fun W => same_zero W)
  have VZ := (fun z W h => view_zero z W h)
  simp only [zeroView] at VN SZ VZ
  replace VN := Lib.hid VN
  replace SZ := Lib.hid SZ
  replace VZ := Lib.hid VZ
  obtain ⟨W0, hW0⟩ : ∃ W0, W0 = (w.alloc (.cells #[.int .u64 t, .bool h, .int .u64 s, .string u, .string b, .slice m.1 m.2.1 m.2.2] 39)).alloc (.cells #[.string ⟨#[]⟩, .string ⟨#[]⟩, .bool false, .int .i64 0, .pointer none, .bool false, .slice none 0 0, .pointer none, .slice none 0 0] 75) := ⟨_, rfl⟩
  have hzK : ∀ W', Own [] W0 W' → W'.cell? ⟨w.heap.size + 1, 4, none⟩ = some (.pointer none) ∧ Below w.heap.size w W' := fun W' ho => by
    subst hW0
    refine ⟨(ho.cell (p := ⟨w.heap.size + 1, 4, none⟩) (by simp) (by simp)).trans (by simp), ((((Own.refl [] w).alloc _).alloc _).trans ho).below (Nat.le_refl _) (by simp)⟩
  replace hzK := Lib.hid hzK
  have hst2 : ∀ X W1 W3 W2, X = W0 → Own [] ((X.alloc W1).alloc W3) W2 → Own [] W0 W2 := by
    rintro X W1 W3 W2 rfl ho
    exact (((Own.refl _ _).alloc _).alloc _).trans ho
  replace hst2 := Lib.hid hst2
  replace hW0 := Lib.hid hW0
  go_wp2_with (first
    | (go_at_call 12; ((with_reducible refine (VN.out _).mono ?_); rintro e w3 ⟨rfl, hO3⟩; replace hO3 := hst2.out _ _ _ _ hW0.out.symm hO3; replace hO3 := Lib.hid hO3))
    | (go_at_call 16; ((with_reducible refine (SZ.out w3).mono ?_); rintro e w4 ⟨rfl, hO4⟩; replace hO4 := hO3.out.trans hO4; have hz4 := (hzK.out _ hO4).1; replace hO4 := Lib.hid hO4))
    | (go_at_call 12; ((with_reducible refine (VZ.out _ w4 hz4).mono ?_); rintro e w5 ⟨rfl, hO5⟩; replace hO5 := hO4.out.trans hO5; replace hO5 := Lib.hid hO5))
    | (go_at_call 16; ((with_reducible refine (SZ.out w5).mono ?_); rintro e w6 ⟨rfl, hO6⟩; replace hO6 := hO5.out.trans hO6; have hz6 := (hzK.out _ hO6).1; replace hO6 := Lib.hid hO6))
    | (go_at_call 13; ((with_reducible refine (AW.out w6).mono ?_); rintro e w7 ⟨rfl, hO7⟩; replace hO7 := hO6.out.trans hO7; replace hO7 := Lib.hid hO7))
    | go_in)
  go_ret
  exact ⟨rfl, (hzK.out _ hO7.out).2⟩
end Go.Proofs.YtjfmbjgniajagaaGreatDoor
