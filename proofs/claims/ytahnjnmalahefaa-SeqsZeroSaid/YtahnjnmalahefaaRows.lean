/-
  No cell of these rows narrows 'for every input' (looked for: loops, veiled, ifaces, maps, wideKeys, modest, calm, conditions, laid).
  DERIVED. THE GIVEN ROWS OF THIS SEAT. 4 by the template 'for every input the law returns true; each argument reads behind the call as it read before'; 0 by the template 'total and deterministic' (their statements: YtahnjnmalahefaaTotals.lean).
  GIVEN WITH THE SEED: the statements are not yours to turn. If you find one false, say at which input.
  Laid BY PROGRAM, IN A SANDBOX (cutbox-rows.mjs): the forced cells as the released guide's own fill.sh prints them over the translation 29da6e0e710512f9… (all of the seat's roots in one cut). By AI agents, Wed Nov 11 2026. No macro, syntax, notation, axiom, sorry.
-/
import Derived.Test.YtahnjnmalahefaaChecked
import GoSem.Claim
import GoSem.ClaimJoined
import GoSem.ClaimMapViews
import Derived.JoinedTies
import Derived.KernelRfl
namespace Go.Proofs.Ytahnjnmalahefaa
/- THE CELL 'sum', in the pinned program and in every row, IS THE sha256 OF THE DUMP (.gsa) THAT YtahnjnmalahefaaProg.lean LOADS. Nothing in Lean hashes anything: it is a label: what it is worth is what the hold of that sum in a sandbox is worth. -/
noncomputable def Try.pinned : Pinned := { name := "ytahnjnmalahefaa", sum := "29da6e0e710512f92c6f527d860ba0660ea5a1fb70276753b78a9675c78985f3", checked := Try.checked }
namespace Rows
def none {H : Type} : Left H := { results := [], args := [] }

/-- 'crierlaw29.SeqsCounts': WHATEVER THE INPUT: true; the input reads as it did. -/
def seqsCountsSpec : ChangeSpec := { name := "seqsCounts", fn := fun _ => fun
  | [d1, d2] => { results := [.lit (.bool true)], args := [d1, d2] }
  | _ => none }
def seqsCountsRow : OpenClaim := { program := "ytahnjnmalahefaa", sum := "29da6e0e710512f92c6f527d860ba0660ea5a1fb70276753b78a9675c78985f3", func := "crier/crierlaw29.SeqsCounts", spec := "seqsCounts", unfollowed := true, recurses := true, apart := false }
def SeqsCountsSaid : Prop := seqsCountsRow.holds Try.pinned (OpenSpec.ofChange seqsCountsSpec)

/-- ITS FALSE NEIGHBOUR: 'it returns false'. Refute it at one input. -/
def seqsCountsWrong : ChangeSpec := { name := "seqsCounts", fn := fun _ => fun
  | [d1, d2] => { results := [.lit (.bool false)], args := [d1, d2] }
  | _ => none }
def SeqsCountsWrongFalsely : Prop := seqsCountsRow.holds Try.pinned (OpenSpec.ofChange seqsCountsWrong)

/-- 'crierlaw29.SeqsRound': WHATEVER THE INPUT: true; the input reads as it did. -/
def seqsRoundSpec : ChangeSpec := { name := "seqsRound", fn := fun _ => fun
  | [d1, d2, d3] => { results := [.lit (.bool true)], args := [d1, d2, d3] }
  | _ => none }
def seqsRoundRow : OpenClaim := { program := "ytahnjnmalahefaa", sum := "29da6e0e710512f92c6f527d860ba0660ea5a1fb70276753b78a9675c78985f3", func := "crier/crierlaw29.SeqsRound", spec := "seqsRound", unfollowed := true, recurses := true, apart := false }
def SeqsRoundSaid : Prop := seqsRoundRow.holds Try.pinned (OpenSpec.ofChange seqsRoundSpec)

/-- ITS FALSE NEIGHBOUR: 'it returns false'. Refute it at one input. -/
def seqsRoundWrong : ChangeSpec := { name := "seqsRound", fn := fun _ => fun
  | [d1, d2, d3] => { results := [.lit (.bool false)], args := [d1, d2, d3] }
  | _ => none }
def SeqsRoundWrongFalsely : Prop := seqsRoundRow.holds Try.pinned (OpenSpec.ofChange seqsRoundWrong)

/-- 'crierlaw29.SeqsPlays': WHATEVER THE INPUT: true; the input reads as it did. -/
def seqsPlaysSpec : ChangeSpec := { name := "seqsPlays", fn := fun _ => fun
  | [d1, d2] => { results := [.lit (.bool true)], args := [d1, d2] }
  | _ => none }
def seqsPlaysRow : OpenClaim := { program := "ytahnjnmalahefaa", sum := "29da6e0e710512f92c6f527d860ba0660ea5a1fb70276753b78a9675c78985f3", func := "crier/crierlaw29.SeqsPlays", spec := "seqsPlays", unfollowed := true, recurses := true, apart := false }
def SeqsPlaysSaid : Prop := seqsPlaysRow.holds Try.pinned (OpenSpec.ofChange seqsPlaysSpec)

/-- ITS FALSE NEIGHBOUR: 'it returns false'. Refute it at one input. -/
def seqsPlaysWrong : ChangeSpec := { name := "seqsPlays", fn := fun _ => fun
  | [d1, d2] => { results := [.lit (.bool false)], args := [d1, d2] }
  | _ => none }
def SeqsPlaysWrongFalsely : Prop := seqsPlaysRow.holds Try.pinned (OpenSpec.ofChange seqsPlaysWrong)

/-- 'crierlaw29.SeqsZero': WHATEVER THE INPUT: true; the input reads as it did. -/
def seqsZeroSpec : ChangeSpec := { name := "seqsZero", fn := fun _ => fun
  | [d] => { results := [.lit (.bool true)], args := [d] }
  | _ => none }
def seqsZeroRow : OpenClaim := { program := "ytahnjnmalahefaa", sum := "29da6e0e710512f92c6f527d860ba0660ea5a1fb70276753b78a9675c78985f3", func := "crier/crierlaw29.SeqsZero", spec := "seqsZero", unfollowed := true, recurses := true, apart := false }
def SeqsZeroSaid : Prop := seqsZeroRow.holds Try.pinned (OpenSpec.ofChange seqsZeroSpec)

/-- ITS FALSE NEIGHBOUR: 'it returns false'. Refute it at one input. -/
def seqsZeroWrong : ChangeSpec := { name := "seqsZero", fn := fun _ => fun
  | [d] => { results := [.lit (.bool false)], args := [d] }
  | _ => none }
def SeqsZeroWrongFalsely : Prop := seqsZeroRow.holds Try.pinned (OpenSpec.ofChange seqsZeroWrong)

/- THE SECOND FORM. 'bulk': how many values and letters a reading holds, each counted each time it is reached (what is shared counts as often as it is met; a slice's spare places count too). A statement '..UptoSaid' is the law's where the arguments, and the package variables that the reading takes, are together of bulk at most 1048576: NARROWER than '..Said'. Prove '..Said' where nothing that the law and all that it calls make is longer than what came in: it says more and counts as full. Else prove '..UptoSaid'. A law counts once. -/
mutual
def uptoBulk {H : Type} : DataW H → Nat
  | .lit (.string bytes) => bytes.length + 1
  | .lit _ => 1
  | .nil => 1
  | .ptr d => uptoBulk d + 1
  | .slice elems spare => uptoBulkAll elems + uptoBulkAll spare + 1
  | .agg parts => uptoBulkAll parts + 1
  | .iface _ d => uptoBulk d + 1
  | .map entries => uptoBulkEntries entries + 1
  | .held _ => 1
def uptoBulkAll {H : Type} : List (DataW H) → Nat
  | [] => 0
  | d :: r => uptoBulk d + uptoBulkAll r
def uptoBulkEntries {H : Type} : List (Lit × DataW H) → Nat
  | [] => 0
  | x :: r => uptoBulkEntry x + uptoBulkEntries r
def uptoBulkEntry {H : Type} : Lit × DataW H → Nat
  | (.string bytes, d) => bytes.length + uptoBulk d + 1
  | (_, d) => uptoBulk d + 1
 end
def uptoSmall : (H : Type) → List (DataW H) → Bool := fun _ ds => decide (uptoBulkAll ds ≤ 1048576)
def OpenSpec.upto (s : _root_.Go.ChangeSpec) : _root_.Go.OpenSpec := { _root_.Go.OpenSpec.ofChange s with cond := some uptoSmall }

/-- 'crierlaw29.SeqsCounts', WHERE WHAT IT READS IS OF BULK AT MOST 1048576: true; the input reads as it did. -/
def seqsCountsUptoRow : OpenClaim := { program := "ytahnjnmalahefaa", sum := "29da6e0e710512f92c6f527d860ba0660ea5a1fb70276753b78a9675c78985f3", func := "crier/crierlaw29.SeqsCounts", spec := "seqsCounts", unfollowed := true, recurses := true, apart := false, narrowed := true }
def SeqsCountsUptoSaid : Prop := seqsCountsUptoRow.holds Try.pinned (OpenSpec.upto seqsCountsSpec)

/-- 'crierlaw29.SeqsRound', WHERE WHAT IT READS IS OF BULK AT MOST 1048576: true; the input reads as it did. -/
def seqsRoundUptoRow : OpenClaim := { program := "ytahnjnmalahefaa", sum := "29da6e0e710512f92c6f527d860ba0660ea5a1fb70276753b78a9675c78985f3", func := "crier/crierlaw29.SeqsRound", spec := "seqsRound", unfollowed := true, recurses := true, apart := false, narrowed := true }
def SeqsRoundUptoSaid : Prop := seqsRoundUptoRow.holds Try.pinned (OpenSpec.upto seqsRoundSpec)

/-- 'crierlaw29.SeqsPlays', WHERE WHAT IT READS IS OF BULK AT MOST 1048576: true; the input reads as it did. -/
def seqsPlaysUptoRow : OpenClaim := { program := "ytahnjnmalahefaa", sum := "29da6e0e710512f92c6f527d860ba0660ea5a1fb70276753b78a9675c78985f3", func := "crier/crierlaw29.SeqsPlays", spec := "seqsPlays", unfollowed := true, recurses := true, apart := false, narrowed := true }
def SeqsPlaysUptoSaid : Prop := seqsPlaysUptoRow.holds Try.pinned (OpenSpec.upto seqsPlaysSpec)

/-- 'crierlaw29.SeqsZero', WHERE WHAT IT READS IS OF BULK AT MOST 1048576: true; the input reads as it did. -/
def seqsZeroUptoRow : OpenClaim := { program := "ytahnjnmalahefaa", sum := "29da6e0e710512f92c6f527d860ba0660ea5a1fb70276753b78a9675c78985f3", func := "crier/crierlaw29.SeqsZero", spec := "seqsZero", unfollowed := true, recurses := true, apart := false, narrowed := true }
def SeqsZeroUptoSaid : Prop := seqsZeroUptoRow.holds Try.pinned (OpenSpec.upto seqsZeroSpec)

end Rows
end Go.Proofs.Ytahnjnmalahefaa
