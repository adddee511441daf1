/- An event that came in. -/
import Derived.Test.YtacbahmmmndmbaaGreatDoorFlat
import Derived.Test.YtacbahmmmndmbaaGreatDoorProg
import Derived.OpenShut
namespace Go.Proofs.YtacbahmmmndmbaaGreatDoor
open Go.RowKit Go.WideShapes

/-! ### arguments -/
structure SEv where
  k : Int
  conn : Int
  n : Int
  data : ByteArray
def SEv.val (x : SEv) : Value := .agg #[.int .i64 x.k, .int .i64 x.conn, .int .i64 x.n, .string x.data]
def sevKinds : List CK := [.int .i64, .int .i64, .int .i64, .str]
theorem sev_flat : flat Tryz.prog 3 23 = some sevKinds := by kernel_rfl
set_option maxRecDepth 100000 in
theorem open_sev {H : Type} {enc : TypeId × Value → H} {w : World} {r : Reach} {b0 : Nat} {fuel : Nat} {v : Value} {x : DataW H × List MemPlace} (hv : Value.okWide Tryz.prog w r b0 23 v)
    (h : DataW.trod enc Tryz.prog w 0 (fun _ => true) true fuel 23 (Value.cells v).toList = some x) : ∃ m : SEv, v = m.val := by
  obtain ⟨cs, rfl, _⟩ := okWide_struct Tryz.underlying23 hv
  obtain ⟨hl, hf⟩ := flat_fits 3 sev_flat h
  have hsz : (Value.cells (.agg cs)).toList = cs.toList := rfl
  rw [hsz] at hl hf
  match hcs : cs.toList, hl with
  | [v0, v1, v2, v3], _ =>
    rw [hcs] at hf
    obtain ⟨n0, rfl, _⟩ := hf 0 _ _ rfl rfl
    obtain ⟨n1, rfl, _⟩ := hf 1 _ _ rfl rfl
    obtain ⟨n2, rfl, _⟩ := hf 2 _ _ rfl rfl
    obtain ⟨s3, rfl, _⟩ := hf 3 _ _ rfl rfl
    refine ⟨⟨n0, n1, n2, s3⟩, ?_⟩
    have : cs = #[.int .i64 n0, .int .i64 n1, .int .i64 n2, .string s3] := Array.ext' hcs
    rw [this]
    rfl
end Go.Proofs.YtacbahmmmndmbaaGreatDoor
