/- An item as it lies in memory. -/
import Derived.WalkKit
namespace Go.Proofs.Ytjbmmgclkhigiaa
open Go.RowKit

/-- An item as it lies in memory. -/
structure Itm where
  name : ByteArray
  has : Bool
  al : Int
  ty : Int
  null : Bool
  vk : Int
  vn : Int
  vs : ByteArray
def Itm.cells (x : Itm) : List Value := [.string x.name, .bool x.has, .int .u64 x.al, .int .u32 x.ty, .bool x.null, .int .i64 x.vk, .int .u64 x.vn, .string x.vs]
def Itm.wf (x : Itm) : Prop := 0 ≤ x.al ∧ x.al ≤ 18446744073709551615 ∧ 0 ≤ x.ty ∧ x.ty ≤ 4294967295 ∧ -9223372036854775808 ≤ x.vk ∧ x.vk ≤ 9223372036854775807 ∧ 0 ≤ x.vn ∧ x.vn ≤ 18446744073709551615
def Itm.zero : Itm := ⟨⟨#[]⟩, false, 0, 0, false, 0, 0, ⟨#[]⟩⟩
def Itm.val (x : Itm) : Value := .agg x.cells.toArray
instance : Inhabited Itm := ⟨Itm.zero⟩
theorem Itm.cells_len (x : Itm) : x.cells.length = 8 := rfl
end Go.Proofs.Ytjbmmgclkhigiaa
