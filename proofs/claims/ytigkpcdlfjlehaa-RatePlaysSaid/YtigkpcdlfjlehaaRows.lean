/-
  No cell of these rows narrows 'for every input' (looked for: loops, veiled, ifaces, maps, wideKeys, modest, calm, conditions, laid).
  DERIVED. THE GIVEN ROWS OF THIS SEAT. 4 by the template 'for every input the law returns true; each argument reads behind the call as it read before'; 0 by the template 'total and deterministic' (their statements: YtigkpcdlfjlehaaTotals.lean).
  GIVEN WITH THE SEED: the statements are not yours to turn. If you find one false, say at which input.
  Laid BY PROGRAM, IN A SANDBOX (cutbox-rows.mjs): the forced cells as the released guide's own fill.sh prints them over the translation d20ddcfe683709ca… (all of the seat's roots in one cut). By AI agents, Wed Nov 11 2026. No macro, syntax, notation, axiom, sorry.
-/
import Derived.Test.YtigkpcdlfjlehaaChecked
import GoSem.Claim
import GoSem.ClaimJoined
import GoSem.ClaimMapViews
import Derived.JoinedTies
import Derived.KernelRfl
namespace Go.Proofs.Ytigkpcdlfjlehaa
/- THE CELL 'sum', in the pinned program and in every row, IS THE sha256 OF THE DUMP (.gsa) THAT YtigkpcdlfjlehaaProg.lean LOADS. Nothing in Lean hashes anything: it is a label: what it is worth is what the hold of that sum in a sandbox is worth. -/
noncomputable def Try.pinned : Pinned := { name := "ytigkpcdlfjlehaa", sum := "d20ddcfe683709cad1ee53e2a6825aeb8fa2a4344f8a68cf2b2dc30f7b7e0a5f", checked := Try.checked }
namespace Rows
def none {H : Type} : Left H := { results := [], args := [] }

/-- 'crierlaw35.RateApart': WHATEVER THE INPUT: true; the input reads as it did. -/
def rateApartSpec : ChangeSpec := { name := "rateApart", fn := fun _ => fun
  | [d1, d2, d3] => { results := [.lit (.bool true)], args := [d1, d2, d3] }
  | _ => none }
def rateApartRow : OpenClaim := { program := "ytigkpcdlfjlehaa", sum := "d20ddcfe683709cad1ee53e2a6825aeb8fa2a4344f8a68cf2b2dc30f7b7e0a5f", func := "crier/crierlaw35.RateApart", spec := "rateApart", unfollowed := true, recurses := true, apart := false }
def RateApartSaid : Prop := rateApartRow.holds Try.pinned (OpenSpec.ofChange rateApartSpec)

/-- ITS FALSE NEIGHBOUR: 'it returns false'. Refute it at one input. -/
def rateApartWrong : ChangeSpec := { name := "rateApart", fn := fun _ => fun
  | [d1, d2, d3] => { results := [.lit (.bool false)], args := [d1, d2, d3] }
  | _ => none }
def RateApartWrongFalsely : Prop := rateApartRow.holds Try.pinned (OpenSpec.ofChange rateApartWrong)

/-- 'crierlaw35.RateRoom': WHATEVER THE INPUT: true; the input reads as it did. -/
def rateRoomSpec : ChangeSpec := { name := "rateRoom", fn := fun _ => fun
  | [d1, d2] => { results := [.lit (.bool true)], args := [d1, d2] }
  | _ => none }
def rateRoomRow : OpenClaim := { program := "ytigkpcdlfjlehaa", sum := "d20ddcfe683709cad1ee53e2a6825aeb8fa2a4344f8a68cf2b2dc30f7b7e0a5f", func := "crier/crierlaw35.RateRoom", spec := "rateRoom", unfollowed := true, recurses := true, apart := false }
def RateRoomSaid : Prop := rateRoomRow.holds Try.pinned (OpenSpec.ofChange rateRoomSpec)

/-- ITS FALSE NEIGHBOUR: 'it returns false'. Refute it at one input. -/
def rateRoomWrong : ChangeSpec := { name := "rateRoom", fn := fun _ => fun
  | [d1, d2] => { results := [.lit (.bool false)], args := [d1, d2] }
  | _ => none }
def RateRoomWrongFalsely : Prop := rateRoomRow.holds Try.pinned (OpenSpec.ofChange rateRoomWrong)

/-- 'crierlaw35.RatePlays': WHATEVER THE INPUT: true; the input reads as it did. -/
def ratePlaysSpec : ChangeSpec := { name := "ratePlays", fn := fun _ => fun
  | [d1, d2, d3] => { results := [.lit (.bool true)], args := [d1, d2, d3] }
  | _ => none }
def ratePlaysRow : OpenClaim := { program := "ytigkpcdlfjlehaa", sum := "d20ddcfe683709cad1ee53e2a6825aeb8fa2a4344f8a68cf2b2dc30f7b7e0a5f", func := "crier/crierlaw35.RatePlays", spec := "ratePlays", unfollowed := true, recurses := true, apart := false }
def RatePlaysSaid : Prop := ratePlaysRow.holds Try.pinned (OpenSpec.ofChange ratePlaysSpec)

/-- ITS FALSE NEIGHBOUR: 'it returns false'. Refute it at one input. -/
def ratePlaysWrong : ChangeSpec := { name := "ratePlays", fn := fun _ => fun
  | [d1, d2, d3] => { results := [.lit (.bool false)], args := [d1, d2, d3] }
  | _ => none }
def RatePlaysWrongFalsely : Prop := ratePlaysRow.holds Try.pinned (OpenSpec.ofChange ratePlaysWrong)

/-- 'crierlaw35.RateZero': WHATEVER THE INPUT: true; the input reads as it did. -/
def rateZeroSpec : ChangeSpec := { name := "rateZero", fn := fun _ => fun
  | [d1, d2] => { results := [.lit (.bool true)], args := [d1, d2] }
  | _ => none }
def rateZeroRow : OpenClaim := { program := "ytigkpcdlfjlehaa", sum := "d20ddcfe683709cad1ee53e2a6825aeb8fa2a4344f8a68cf2b2dc30f7b7e0a5f", func := "crier/crierlaw35.RateZero", spec := "rateZero", unfollowed := true, recurses := true, apart := false }
def RateZeroSaid : Prop := rateZeroRow.holds Try.pinned (OpenSpec.ofChange rateZeroSpec)

/-- ITS FALSE NEIGHBOUR: 'it returns false'. Refute it at one input. -/
def rateZeroWrong : ChangeSpec := { name := "rateZero", fn := fun _ => fun
  | [d1, d2] => { results := [.lit (.bool false)], args := [d1, d2] }
  | _ => none }
def RateZeroWrongFalsely : Prop := rateZeroRow.holds Try.pinned (OpenSpec.ofChange rateZeroWrong)

/- THE SECOND FORM. 'bulk': how many values and letters a reading holds, each counted each time it is reached (what is shared counts as often as it is met; a slice's spare places count too). A statement '..UptoSaid' is the law's where the arguments, and the package variables that the reading takes, are together of bulk at most 1048576: NARROWER than '..Said'. Prove '..Said' where nothing that the law and all that it calls make is longer than what came in: it says more and counts as full. Else prove '..UptoSaid'. A law counts once. -/
mutual
def uptoBulk {H : Type} : DataW H → Nat
  | .lit (.string bytes) => bytes.length + 1
  | .lit _ => 1
  | .nil => 1
  | .ptr d => uptoBulk d + 1
  | .slice elems spare => uptoBulkAll elems + uptoBulkAll spare + 1
  | .agg parts => uptoBulkAll parts + 1
  | .iface _ d => uptoBulk d + 1
  | .map entries => uptoBulkEntries entries + 1
  | .held _ => 1
def uptoBulkAll {H : Type} : List (DataW H) → Nat
  | [] => 0
  | d :: r => uptoBulk d + uptoBulkAll r
def uptoBulkEntries {H : Type} : List (Lit × DataW H) → Nat
  | [] => 0
  | x :: r => uptoBulkEntry x + uptoBulkEntries r
def uptoBulkEntry {H : Type} : Lit × DataW H → Nat
  | (.string bytes, d) => bytes.length + uptoBulk d + 1
  | (_, d) => uptoBulk d + 1
 end
def uptoSmall : (H : Type) → List (DataW H) → Bool := fun _ ds => decide (uptoBulkAll ds ≤ 1048576)
def OpenSpec.upto (s : _root_.Go.ChangeSpec) : _root_.Go.OpenSpec := { _root_.Go.OpenSpec.ofChange s with cond := some uptoSmall }

/-- 'crierlaw35.RateApart', WHERE WHAT IT READS IS OF BULK AT MOST 1048576: true; the input reads as it did. -/
def rateApartUptoRow : OpenClaim := { program := "ytigkpcdlfjlehaa", sum := "d20ddcfe683709cad1ee53e2a6825aeb8fa2a4344f8a68cf2b2dc30f7b7e0a5f", func := "crier/crierlaw35.RateApart", spec := "rateApart", unfollowed := true, recurses := true, apart := false, narrowed := true }
def RateApartUptoSaid : Prop := rateApartUptoRow.holds Try.pinned (OpenSpec.upto rateApartSpec)

/-- 'crierlaw35.RateRoom', WHERE WHAT IT READS IS OF BULK AT MOST 1048576: true; the input reads as it did. -/
def rateRoomUptoRow : OpenClaim := { program := "ytigkpcdlfjlehaa", sum := "d20ddcfe683709cad1ee53e2a6825aeb8fa2a4344f8a68cf2b2dc30f7b7e0a5f", func := "crier/crierlaw35.RateRoom", spec := "rateRoom", unfollowed := true, recurses := true, apart := false, narrowed := true }
def RateRoomUptoSaid : Prop := rateRoomUptoRow.holds Try.pinned (OpenSpec.upto rateRoomSpec)

/-- 'crierlaw35.RatePlays', WHERE WHAT IT READS IS OF BULK AT MOST 1048576: true; the input reads as it did. -/
def ratePlaysUptoRow : OpenClaim := { program := "ytigkpcdlfjlehaa", sum := "d20ddcfe683709cad1ee53e2a6825aeb8fa2a4344f8a68cf2b2dc30f7b7e0a5f", func := "crier/crierlaw35.RatePlays", spec := "ratePlays", unfollowed := true, recurses := true, apart := false, narrowed := true }
def RatePlaysUptoSaid : Prop := ratePlaysUptoRow.holds Try.pinned (OpenSpec.upto ratePlaysSpec)

/-- 'crierlaw35.RateZero', WHERE WHAT IT READS IS OF BULK AT MOST 1048576: true; the input reads as it did. -/
def rateZeroUptoRow : OpenClaim := { program := "ytigkpcdlfjlehaa", sum := "d20ddcfe683709cad1ee53e2a6825aeb8fa2a4344f8a68cf2b2dc30f7b7e0a5f", func := "crier/crierlaw35.RateZero", spec := "rateZero", unfollowed := true, recurses := true, apart := false, narrowed := true }
def RateZeroUptoSaid : Prop := rateZeroUptoRow.holds Try.pinned (OpenSpec.upto rateZeroSpec)

end Rows
end Go.Proofs.Ytigkpcdlfjlehaa
