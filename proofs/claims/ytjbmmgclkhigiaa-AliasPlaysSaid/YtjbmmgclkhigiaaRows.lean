/-
  No cell of these rows narrows 'for every input' (looked for: loops, veiled, ifaces, maps, wideKeys, modest, calm, conditions, laid).
  DERIVED. THE GIVEN ROWS OF THIS SEAT. 4 by the template 'for every input the law returns true; each argument reads behind the call as it read before'; 0 by the template 'total and deterministic' (their statements: YtjbmmgclkhigiaaTotals.lean).
  GIVEN WITH THE SEED: the statements are not yours to turn. If you find one false, say at which input.
  Laid BY PROGRAM, IN A SANDBOX (cutbox-rows.mjs): the forced cells as the released guide's own fill.sh prints them over the translation 6436a55c307a8743… (all of the seat's roots in one cut). By AI agents, Wed Nov 11 2026. No macro, syntax, notation, axiom, sorry.
-/
import Derived.Test.YtjbmmgclkhigiaaChecked
import GoSem.Claim
import GoSem.ClaimJoined
import GoSem.ClaimMapViews
import Derived.JoinedTies
import Derived.KernelRfl
namespace Go.Proofs.Ytjbmmgclkhigiaa
/- THE CELL 'sum', in the pinned program and in every row, IS THE sha256 OF THE DUMP (.gsa) THAT YtjbmmgclkhigiaaProg.lean LOADS. Nothing in Lean hashes anything: it is a label: what it is worth is what the hold of that sum in a sandbox is worth. -/
noncomputable def Try.pinned : Pinned := { name := "ytjbmmgclkhigiaa", sum := "6436a55c307a874320cd7da654b59e4c101ea1183901e866c8b0756bc30ebaee", checked := Try.checked }
namespace Rows
def none {H : Type} : Left H := { results := [], args := [] }

/-- 'crierlaw30.AliasSet': WHATEVER THE INPUT: true; the input reads as it did. -/
def aliasSetSpec : ChangeSpec := { name := "aliasSet", fn := fun _ => fun
  | [d1, d2, d3] => { results := [.lit (.bool true)], args := [d1, d2, d3] }
  | _ => none }
def aliasSetRow : OpenClaim := { program := "ytjbmmgclkhigiaa", sum := "6436a55c307a874320cd7da654b59e4c101ea1183901e866c8b0756bc30ebaee", func := "crier/crierlaw30.AliasSet", spec := "aliasSet", apart := false }
def AliasSetSaid : Prop := aliasSetRow.holds Try.pinned (OpenSpec.ofChange aliasSetSpec)

/-- ITS FALSE NEIGHBOUR: 'it returns false'. Refute it at one input. -/
def aliasSetWrong : ChangeSpec := { name := "aliasSet", fn := fun _ => fun
  | [d1, d2, d3] => { results := [.lit (.bool false)], args := [d1, d2, d3] }
  | _ => none }
def AliasSetWrongFalsely : Prop := aliasSetRow.holds Try.pinned (OpenSpec.ofChange aliasSetWrong)

/-- 'crierlaw30.AliasOne': WHATEVER THE INPUT: true; the input reads as it did. -/
def aliasOneSpec : ChangeSpec := { name := "aliasOne", fn := fun _ => fun
  | [d1, d2, d3] => { results := [.lit (.bool true)], args := [d1, d2, d3] }
  | _ => none }
def aliasOneRow : OpenClaim := { program := "ytjbmmgclkhigiaa", sum := "6436a55c307a874320cd7da654b59e4c101ea1183901e866c8b0756bc30ebaee", func := "crier/crierlaw30.AliasOne", spec := "aliasOne", unfollowed := true, recurses := true, apart := false }
def AliasOneSaid : Prop := aliasOneRow.holds Try.pinned (OpenSpec.ofChange aliasOneSpec)

/-- ITS FALSE NEIGHBOUR: 'it returns false'. Refute it at one input. -/
def aliasOneWrong : ChangeSpec := { name := "aliasOne", fn := fun _ => fun
  | [d1, d2, d3] => { results := [.lit (.bool false)], args := [d1, d2, d3] }
  | _ => none }
def AliasOneWrongFalsely : Prop := aliasOneRow.holds Try.pinned (OpenSpec.ofChange aliasOneWrong)

/-- 'crierlaw30.AliasPlays': WHATEVER THE INPUT: true; the input reads as it did. -/
def aliasPlaysSpec : ChangeSpec := { name := "aliasPlays", fn := fun _ => fun
  | [d1, d2, d3] => { results := [.lit (.bool true)], args := [d1, d2, d3] }
  | _ => none }
def aliasPlaysRow : OpenClaim := { program := "ytjbmmgclkhigiaa", sum := "6436a55c307a874320cd7da654b59e4c101ea1183901e866c8b0756bc30ebaee", func := "crier/crierlaw30.AliasPlays", spec := "aliasPlays", unfollowed := true, recurses := true, apart := false }
def AliasPlaysSaid : Prop := aliasPlaysRow.holds Try.pinned (OpenSpec.ofChange aliasPlaysSpec)

/-- ITS FALSE NEIGHBOUR: 'it returns false'. Refute it at one input. -/
def aliasPlaysWrong : ChangeSpec := { name := "aliasPlays", fn := fun _ => fun
  | [d1, d2, d3] => { results := [.lit (.bool false)], args := [d1, d2, d3] }
  | _ => none }
def AliasPlaysWrongFalsely : Prop := aliasPlaysRow.holds Try.pinned (OpenSpec.ofChange aliasPlaysWrong)

/-- 'crierlaw30.AliasZero': WHATEVER THE INPUT: true; the input reads as it did. -/
def aliasZeroSpec : ChangeSpec := { name := "aliasZero", fn := fun _ => fun
  | [d1, d2, d3] => { results := [.lit (.bool true)], args := [d1, d2, d3] }
  | _ => none }
def aliasZeroRow : OpenClaim := { program := "ytjbmmgclkhigiaa", sum := "6436a55c307a874320cd7da654b59e4c101ea1183901e866c8b0756bc30ebaee", func := "crier/crierlaw30.AliasZero", spec := "aliasZero", unfollowed := true, recurses := true, apart := false }
def AliasZeroSaid : Prop := aliasZeroRow.holds Try.pinned (OpenSpec.ofChange aliasZeroSpec)

/-- ITS FALSE NEIGHBOUR: 'it returns false'. Refute it at one input. -/
def aliasZeroWrong : ChangeSpec := { name := "aliasZero", fn := fun _ => fun
  | [d1, d2, d3] => { results := [.lit (.bool false)], args := [d1, d2, d3] }
  | _ => none }
def AliasZeroWrongFalsely : Prop := aliasZeroRow.holds Try.pinned (OpenSpec.ofChange aliasZeroWrong)

/- THE SECOND FORM. 'bulk': how many values and letters a reading holds, each counted each time it is reached (what is shared counts as often as it is met; a slice's spare places count too). A statement '..UptoSaid' is the law's where the arguments, and the package variables that the reading takes, are together of bulk at most 1048576: NARROWER than '..Said'. Prove '..Said' where nothing that the law and all that it calls make is longer than what came in: it says more and counts as full. Else prove '..UptoSaid'. A law counts once. -/
mutual
def uptoBulk {H : Type} : DataW H → Nat
  | .lit (.string bytes) => bytes.length + 1
  | .lit _ => 1
  | .nil => 1
  | .ptr d => uptoBulk d + 1
  | .slice elems spare => uptoBulkAll elems + uptoBulkAll spare + 1
  | .agg parts => uptoBulkAll parts + 1
  | .iface _ d => uptoBulk d + 1
  | .map entries => uptoBulkEntries entries + 1
  | .held _ => 1
def uptoBulkAll {H : Type} : List (DataW H) → Nat
  | [] => 0
  | d :: r => uptoBulk d + uptoBulkAll r
def uptoBulkEntries {H : Type} : List (Lit × DataW H) → Nat
  | [] => 0
  | x :: r => uptoBulkEntry x + uptoBulkEntries r
def uptoBulkEntry {H : Type} : Lit × DataW H → Nat
  | (.string bytes, d) => bytes.length + uptoBulk d + 1
  | (_, d) => uptoBulk d + 1
 end
def uptoSmall : (H : Type) → List (DataW H) → Bool := fun _ ds => decide (uptoBulkAll ds ≤ 1048576)
def OpenSpec.upto (s : _root_.Go.ChangeSpec) : _root_.Go.OpenSpec := { _root_.Go.OpenSpec.ofChange s with cond := some uptoSmall }

/-- 'crierlaw30.AliasSet', WHERE WHAT IT READS IS OF BULK AT MOST 1048576: true; the input reads as it did. -/
def aliasSetUptoRow : OpenClaim := { program := "ytjbmmgclkhigiaa", sum := "6436a55c307a874320cd7da654b59e4c101ea1183901e866c8b0756bc30ebaee", func := "crier/crierlaw30.AliasSet", spec := "aliasSet", apart := false, narrowed := true }
def AliasSetUptoSaid : Prop := aliasSetUptoRow.holds Try.pinned (OpenSpec.upto aliasSetSpec)

/-- 'crierlaw30.AliasOne', WHERE WHAT IT READS IS OF BULK AT MOST 1048576: true; the input reads as it did. -/
def aliasOneUptoRow : OpenClaim := { program := "ytjbmmgclkhigiaa", sum := "6436a55c307a874320cd7da654b59e4c101ea1183901e866c8b0756bc30ebaee", func := "crier/crierlaw30.AliasOne", spec := "aliasOne", unfollowed := true, recurses := true, apart := false, narrowed := true }
def AliasOneUptoSaid : Prop := aliasOneUptoRow.holds Try.pinned (OpenSpec.upto aliasOneSpec)

/-- 'crierlaw30.AliasPlays', WHERE WHAT IT READS IS OF BULK AT MOST 1048576: true; the input reads as it did. -/
def aliasPlaysUptoRow : OpenClaim := { program := "ytjbmmgclkhigiaa", sum := "6436a55c307a874320cd7da654b59e4c101ea1183901e866c8b0756bc30ebaee", func := "crier/crierlaw30.AliasPlays", spec := "aliasPlays", unfollowed := true, recurses := true, apart := false, narrowed := true }
def AliasPlaysUptoSaid : Prop := aliasPlaysUptoRow.holds Try.pinned (OpenSpec.upto aliasPlaysSpec)

/-- 'crierlaw30.AliasZero', WHERE WHAT IT READS IS OF BULK AT MOST 1048576: true; the input reads as it did. -/
def aliasZeroUptoRow : OpenClaim := { program := "ytjbmmgclkhigiaa", sum := "6436a55c307a874320cd7da654b59e4c101ea1183901e866c8b0756bc30ebaee", func := "crier/crierlaw30.AliasZero", spec := "aliasZero", unfollowed := true, recurses := true, apart := false, narrowed := true }
def AliasZeroUptoSaid : Prop := aliasZeroUptoRow.holds Try.pinned (OpenSpec.upto aliasZeroSpec)

end Rows
end Go.Proofs.Ytjbmmgclkhigiaa
