/-
  NARROWER THAN 'FOR EVERY INPUT', by the rows' own cells (each row's printed sentence says how): EdgeGap: laid · EdgeRefused: loops, laid · EdgeDevices: loops, laid · EdgeBorn: loops, laid · EdgePlays: loops, laid · EdgeZero: loops, laid.
  DERIVED. THE GIVEN ROWS OF THIS SEAT. 6 by the template 'for every input the law returns true; each argument reads behind the call as it read before'; 0 by the template 'total and deterministic' (their statements: YtjfmbjgniajagaaGreatDoorTotals.lean).
  GIVEN WITH THE SEED: the statements are not yours to turn. If you find one false, say at which input.
  Laid BY PROGRAM, IN A SANDBOX (cutbox-rows.mjs): the forced cells as the released guide's own fill.sh prints them over the translation 33ce3480d107d545… (all of the seat's roots in one cut). By AI agents, Wed Nov 11 2026. No macro, syntax, notation, axiom, sorry.
-/
import Derived.Test.YtjfmbjgniajagaaGreatDoorChecked
import GoSem.Claim
import GoSem.ClaimJoined
import GoSem.ClaimMapViews
import Derived.JoinedTies
import Derived.KernelRfl
namespace Go.Proofs.YtjfmbjgniajagaaGreatDoor
/- THE CELL 'sum', in the pinned program and in every row, IS THE sha256 OF THE DUMP (.gsa) THAT YtjfmbjgniajagaaGreatDoorProg.lean LOADS. Nothing in Lean hashes anything: it is a label: what it is worth is what the hold of that sum in a sandbox is worth. -/
noncomputable def Tryz.pinned : Pinned := { name := "ytjfmbjgniajagaagreatdoor", sum := "33ce3480d107d545c51a0a07eb2e1ab9e58d383f7756026f7b68ba058d50fdcc", checked := Tryz.checked }
namespace Rows
def none {H : Type} : Left H := { results := [], args := [] }

/- WHAT THE LISTED PACKAGE-LEVEL VARIABLES READ AS WHEN THE CALL BEGINS. Each datum BY PROGRAM (the guide's laid-datum.mjs) off the statement by which the dump's own 'gosem.cut.vars' lays the variable. In a bare row this is a premise. The card (YtjfmbjgniajagaaGreatDoorCards.lean) ties it to the program's text. -/
def laid_errors_errorType {H : Type} : DataW H := .iface "internal/reflectlite.rtype" (.agg [.ptr (.lit (.string [101, 114, 114, 111, 114]))])

/-- 'crierlaw33.EdgeGap': WHATEVER THE INPUT: true; the input reads as it did. -/
def edgeGapSpec : ChangeSpec := { name := "edgeGap", fn := fun _ => fun
  | [d1, d2] => { results := [.lit (.bool true)], args := [d1, d2] }
  | _ => none }
def edgeGapRow : OpenClaim := { program := "ytjfmbjgniajagaagreatdoor", sum := "33ce3480d107d545c51a0a07eb2e1ab9e58d383f7756026f7b68ba058d50fdcc", func := "crier/crierlaw33.EdgeGap", spec := "edgeGap", inPlace := ["internal/reflectlite.ValueOf", "(internal/reflectlite.Value).Type", "(internal/reflectlite.Value).IsNil", "internal/reflectlite.TypeOf", "(internal/reflectlite.Value).Elem", "(internal/reflectlite.Value).Set", "slices.overlaps[*crier/device.Device]"], unfollowed := true, recurses := true, named := ["errors.errorType"], apart := false, laid := [("errors.errorType", laid_errors_errorType)] }
def EdgeGapSaid : Prop := edgeGapRow.holds Tryz.pinned (OpenSpec.ofChange edgeGapSpec)

/-- ITS FALSE NEIGHBOUR: 'it returns false'. Refute it at one input. -/
def edgeGapWrong : ChangeSpec := { name := "edgeGap", fn := fun _ => fun
  | [d1, d2] => { results := [.lit (.bool false)], args := [d1, d2] }
  | _ => none }
def EdgeGapWrongFalsely : Prop := edgeGapRow.holds Tryz.pinned (OpenSpec.ofChange edgeGapWrong)

/-- 'crierlaw33.EdgeRefused': WHATEVER THE INPUT: true; the input reads as it did. -/
def edgeRefusedSpec : ChangeSpec := { name := "edgeRefused", fn := fun _ => fun
  | [d1, d2] => { results := [.lit (.bool true)], args := [d1, d2] }
  | _ => none }
def edgeRefusedRow : OpenClaim := { program := "ytjfmbjgniajagaagreatdoor", sum := "33ce3480d107d545c51a0a07eb2e1ab9e58d383f7756026f7b68ba058d50fdcc", func := "crier/crierlaw33.EdgeRefused", spec := "edgeRefused", inPlace := ["internal/reflectlite.ValueOf", "(internal/reflectlite.Value).Type", "(internal/reflectlite.Value).IsNil", "internal/reflectlite.TypeOf", "(internal/reflectlite.Value).Elem", "(internal/reflectlite.Value).Set", "slices.overlaps[*crier/device.Device]"], unfollowed := true, recurses := true, named := ["errors.errorType"], loops := true, apart := false, laid := [("errors.errorType", laid_errors_errorType)] }
def EdgeRefusedSaid : Prop := edgeRefusedRow.holds Tryz.pinned (OpenSpec.ofChange edgeRefusedSpec)

/-- ITS FALSE NEIGHBOUR: 'it returns false'. Refute it at one input. -/
def edgeRefusedWrong : ChangeSpec := { name := "edgeRefused", fn := fun _ => fun
  | [d1, d2] => { results := [.lit (.bool false)], args := [d1, d2] }
  | _ => none }
def EdgeRefusedWrongFalsely : Prop := edgeRefusedRow.holds Tryz.pinned (OpenSpec.ofChange edgeRefusedWrong)

/-- 'crierlaw33.EdgeDevices': WHATEVER THE INPUT: true; the input reads as it did. -/
def edgeDevicesSpec : ChangeSpec := { name := "edgeDevices", fn := fun _ => fun
  | [d] => { results := [.lit (.bool true)], args := [d] }
  | _ => none }
def edgeDevicesRow : OpenClaim := { program := "ytjfmbjgniajagaagreatdoor", sum := "33ce3480d107d545c51a0a07eb2e1ab9e58d383f7756026f7b68ba058d50fdcc", func := "crier/crierlaw33.EdgeDevices", spec := "edgeDevices", inPlace := ["internal/reflectlite.ValueOf", "(internal/reflectlite.Value).Type", "(internal/reflectlite.Value).IsNil", "internal/reflectlite.TypeOf", "(internal/reflectlite.Value).Elem", "(internal/reflectlite.Value).Set", "slices.overlaps[*crier/device.Device]"], unfollowed := true, recurses := true, named := ["errors.errorType"], loops := true, apart := false, laid := [("errors.errorType", laid_errors_errorType)] }
def EdgeDevicesSaid : Prop := edgeDevicesRow.holds Tryz.pinned (OpenSpec.ofChange edgeDevicesSpec)

/-- ITS FALSE NEIGHBOUR: 'it returns false'. Refute it at one input. -/
def edgeDevicesWrong : ChangeSpec := { name := "edgeDevices", fn := fun _ => fun
  | [d] => { results := [.lit (.bool false)], args := [d] }
  | _ => none }
def EdgeDevicesWrongFalsely : Prop := edgeDevicesRow.holds Tryz.pinned (OpenSpec.ofChange edgeDevicesWrong)

/-- 'crierlaw33.EdgeBorn': WHATEVER THE INPUT: true; the input reads as it did. -/
def edgeBornSpec : ChangeSpec := { name := "edgeBorn", fn := fun _ => fun
  | [d1, d2, d3] => { results := [.lit (.bool true)], args := [d1, d2, d3] }
  | _ => none }
def edgeBornRow : OpenClaim := { program := "ytjfmbjgniajagaagreatdoor", sum := "33ce3480d107d545c51a0a07eb2e1ab9e58d383f7756026f7b68ba058d50fdcc", func := "crier/crierlaw33.EdgeBorn", spec := "edgeBorn", inPlace := ["internal/reflectlite.ValueOf", "(internal/reflectlite.Value).Type", "(internal/reflectlite.Value).IsNil", "internal/reflectlite.TypeOf", "(internal/reflectlite.Value).Elem", "(internal/reflectlite.Value).Set", "slices.overlaps[*crier/device.Device]"], unfollowed := true, recurses := true, named := ["errors.errorType"], loops := true, apart := false, laid := [("errors.errorType", laid_errors_errorType)] }
def EdgeBornSaid : Prop := edgeBornRow.holds Tryz.pinned (OpenSpec.ofChange edgeBornSpec)

/-- ITS FALSE NEIGHBOUR: 'it returns false'. Refute it at one input. -/
def edgeBornWrong : ChangeSpec := { name := "edgeBorn", fn := fun _ => fun
  | [d1, d2, d3] => { results := [.lit (.bool false)], args := [d1, d2, d3] }
  | _ => none }
def EdgeBornWrongFalsely : Prop := edgeBornRow.holds Tryz.pinned (OpenSpec.ofChange edgeBornWrong)

/-- 'crierlaw33.EdgePlays': WHATEVER THE INPUT: true; the input reads as it did. -/
def edgePlaysSpec : ChangeSpec := { name := "edgePlays", fn := fun _ => fun
  | [d1, d2, d3] => { results := [.lit (.bool true)], args := [d1, d2, d3] }
  | _ => none }
def edgePlaysRow : OpenClaim := { program := "ytjfmbjgniajagaagreatdoor", sum := "33ce3480d107d545c51a0a07eb2e1ab9e58d383f7756026f7b68ba058d50fdcc", func := "crier/crierlaw33.EdgePlays", spec := "edgePlays", inPlace := ["internal/reflectlite.ValueOf", "(internal/reflectlite.Value).Type", "(internal/reflectlite.Value).IsNil", "internal/reflectlite.TypeOf", "(internal/reflectlite.Value).Elem", "(internal/reflectlite.Value).Set", "slices.overlaps[*crier/device.Device]"], unfollowed := true, recurses := true, named := ["errors.errorType"], loops := true, apart := false, laid := [("errors.errorType", laid_errors_errorType)] }
def EdgePlaysSaid : Prop := edgePlaysRow.holds Tryz.pinned (OpenSpec.ofChange edgePlaysSpec)

/-- ITS FALSE NEIGHBOUR: 'it returns false'. Refute it at one input. -/
def edgePlaysWrong : ChangeSpec := { name := "edgePlays", fn := fun _ => fun
  | [d1, d2, d3] => { results := [.lit (.bool false)], args := [d1, d2, d3] }
  | _ => none }
def EdgePlaysWrongFalsely : Prop := edgePlaysRow.holds Tryz.pinned (OpenSpec.ofChange edgePlaysWrong)

/-- 'crierlaw33.EdgeZero': WHATEVER THE INPUT: true; the input reads as it did. -/
def edgeZeroSpec : ChangeSpec := { name := "edgeZero", fn := fun _ => fun
  | [d1, d2] => { results := [.lit (.bool true)], args := [d1, d2] }
  | _ => none }
def edgeZeroRow : OpenClaim := { program := "ytjfmbjgniajagaagreatdoor", sum := "33ce3480d107d545c51a0a07eb2e1ab9e58d383f7756026f7b68ba058d50fdcc", func := "crier/crierlaw33.EdgeZero", spec := "edgeZero", inPlace := ["internal/reflectlite.ValueOf", "(internal/reflectlite.Value).Type", "(internal/reflectlite.Value).IsNil", "internal/reflectlite.TypeOf", "(internal/reflectlite.Value).Elem", "(internal/reflectlite.Value).Set", "slices.overlaps[*crier/device.Device]"], unfollowed := true, recurses := true, named := ["errors.errorType"], loops := true, apart := false, laid := [("errors.errorType", laid_errors_errorType)] }
def EdgeZeroSaid : Prop := edgeZeroRow.holds Tryz.pinned (OpenSpec.ofChange edgeZeroSpec)

/-- ITS FALSE NEIGHBOUR: 'it returns false'. Refute it at one input. -/
def edgeZeroWrong : ChangeSpec := { name := "edgeZero", fn := fun _ => fun
  | [d1, d2] => { results := [.lit (.bool false)], args := [d1, d2] }
  | _ => none }
def EdgeZeroWrongFalsely : Prop := edgeZeroRow.holds Tryz.pinned (OpenSpec.ofChange edgeZeroWrong)

/- THE SECOND FORM. 'bulk': how many values and letters a reading holds, each counted each time it is reached (what is shared counts as often as it is met; a slice's spare places count too). A statement '..UptoSaid' is the law's where the arguments, and the package variables that the reading takes, are together of bulk at most 1048576: NARROWER than '..Said'. Prove '..Said' where nothing that the law and all that it calls make is longer than what came in: it says more and counts as full. Else prove '..UptoSaid'. A law counts once. -/
mutual
def uptoBulk {H : Type} : DataW H → Nat
  | .lit (.string bytes) => bytes.length + 1
  | .lit _ => 1
  | .nil => 1
  | .ptr d => uptoBulk d + 1
  | .slice elems spare => uptoBulkAll elems + uptoBulkAll spare + 1
  | .agg parts => uptoBulkAll parts + 1
  | .iface _ d => uptoBulk d + 1
  | .map entries => uptoBulkEntries entries + 1
  | .held _ => 1
def uptoBulkAll {H : Type} : List (DataW H) → Nat
  | [] => 0
  | d :: r => uptoBulk d + uptoBulkAll r
def uptoBulkEntries {H : Type} : List (Lit × DataW H) → Nat
  | [] => 0
  | x :: r => uptoBulkEntry x + uptoBulkEntries r
def uptoBulkEntry {H : Type} : Lit × DataW H → Nat
  | (.string bytes, d) => bytes.length + uptoBulk d + 1
  | (_, d) => uptoBulk d + 1
 end
def uptoSmall : (H : Type) → List (DataW H) → Bool := fun _ ds => decide (uptoBulkAll ds ≤ 1048576)
def OpenSpec.upto (s : _root_.Go.ChangeSpec) : _root_.Go.OpenSpec := { _root_.Go.OpenSpec.ofChange s with cond := some uptoSmall }

/-- 'crierlaw33.EdgeGap', WHERE WHAT IT READS IS OF BULK AT MOST 1048576: true; the input reads as it did. -/
def edgeGapUptoRow : OpenClaim := { program := "ytjfmbjgniajagaagreatdoor", sum := "33ce3480d107d545c51a0a07eb2e1ab9e58d383f7756026f7b68ba058d50fdcc", func := "crier/crierlaw33.EdgeGap", spec := "edgeGap", inPlace := ["internal/reflectlite.ValueOf", "(internal/reflectlite.Value).Type", "(internal/reflectlite.Value).IsNil", "internal/reflectlite.TypeOf", "(internal/reflectlite.Value).Elem", "(internal/reflectlite.Value).Set", "slices.overlaps[*crier/device.Device]"], unfollowed := true, recurses := true, named := ["errors.errorType"], apart := false, laid := [("errors.errorType", laid_errors_errorType)], narrowed := true }
def EdgeGapUptoSaid : Prop := edgeGapUptoRow.holds Tryz.pinned (OpenSpec.upto edgeGapSpec)

/-- 'crierlaw33.EdgeRefused', WHERE WHAT IT READS IS OF BULK AT MOST 1048576: true; the input reads as it did. -/
def edgeRefusedUptoRow : OpenClaim := { program := "ytjfmbjgniajagaagreatdoor", sum := "33ce3480d107d545c51a0a07eb2e1ab9e58d383f7756026f7b68ba058d50fdcc", func := "crier/crierlaw33.EdgeRefused", spec := "edgeRefused", inPlace := ["internal/reflectlite.ValueOf", "(internal/reflectlite.Value).Type", "(internal/reflectlite.Value).IsNil", "internal/reflectlite.TypeOf", "(internal/reflectlite.Value).Elem", "(internal/reflectlite.Value).Set", "slices.overlaps[*crier/device.Device]"], unfollowed := true, recurses := true, named := ["errors.errorType"], loops := true, apart := false, laid := [("errors.errorType", laid_errors_errorType)], narrowed := true }
def EdgeRefusedUptoSaid : Prop := edgeRefusedUptoRow.holds Tryz.pinned (OpenSpec.upto edgeRefusedSpec)

/-- 'crierlaw33.EdgeDevices', WHERE WHAT IT READS IS OF BULK AT MOST 1048576: true; the input reads as it did. -/
def edgeDevicesUptoRow : OpenClaim := { program := "ytjfmbjgniajagaagreatdoor", sum := "33ce3480d107d545c51a0a07eb2e1ab9e58d383f7756026f7b68ba058d50fdcc", func := "crier/crierlaw33.EdgeDevices", spec := "edgeDevices", inPlace := ["internal/reflectlite.ValueOf", "(internal/reflectlite.Value).Type", "(internal/reflectlite.Value).IsNil", "internal/reflectlite.TypeOf", "(internal/reflectlite.Value).Elem", "(internal/reflectlite.Value).Set", "slices.overlaps[*crier/device.Device]"], unfollowed := true, recurses := true, named := ["errors.errorType"], loops := true, apart := false, laid := [("errors.errorType", laid_errors_errorType)], narrowed := true }
def EdgeDevicesUptoSaid : Prop := edgeDevicesUptoRow.holds Tryz.pinned (OpenSpec.upto edgeDevicesSpec)

/-- 'crierlaw33.EdgeBorn', WHERE WHAT IT READS IS OF BULK AT MOST 1048576: true; the input reads as it did. -/
def edgeBornUptoRow : OpenClaim := { program := "ytjfmbjgniajagaagreatdoor", sum := "33ce3480d107d545c51a0a07eb2e1ab9e58d383f7756026f7b68ba058d50fdcc", func := "crier/crierlaw33.EdgeBorn", spec := "edgeBorn", inPlace := ["internal/reflectlite.ValueOf", "(internal/reflectlite.Value).Type", "(internal/reflectlite.Value).IsNil", "internal/reflectlite.TypeOf", "(internal/reflectlite.Value).Elem", "(internal/reflectlite.Value).Set", "slices.overlaps[*crier/device.Device]"], unfollowed := true, recurses := true, named := ["errors.errorType"], loops := true, apart := false, laid := [("errors.errorType", laid_errors_errorType)], narrowed := true }
def EdgeBornUptoSaid : Prop := edgeBornUptoRow.holds Tryz.pinned (OpenSpec.upto edgeBornSpec)

/-- 'crierlaw33.EdgePlays', WHERE WHAT IT READS IS OF BULK AT MOST 1048576: true; the input reads as it did. -/
def edgePlaysUptoRow : OpenClaim := { program := "ytjfmbjgniajagaagreatdoor", sum := "33ce3480d107d545c51a0a07eb2e1ab9e58d383f7756026f7b68ba058d50fdcc", func := "crier/crierlaw33.EdgePlays", spec := "edgePlays", inPlace := ["internal/reflectlite.ValueOf", "(internal/reflectlite.Value).Type", "(internal/reflectlite.Value).IsNil", "internal/reflectlite.TypeOf", "(internal/reflectlite.Value).Elem", "(internal/reflectlite.Value).Set", "slices.overlaps[*crier/device.Device]"], unfollowed := true, recurses := true, named := ["errors.errorType"], loops := true, apart := false, laid := [("errors.errorType", laid_errors_errorType)], narrowed := true }
def EdgePlaysUptoSaid : Prop := edgePlaysUptoRow.holds Tryz.pinned (OpenSpec.upto edgePlaysSpec)

/-- 'crierlaw33.EdgeZero', WHERE WHAT IT READS IS OF BULK AT MOST 1048576: true; the input reads as it did. -/
def edgeZeroUptoRow : OpenClaim := { program := "ytjfmbjgniajagaagreatdoor", sum := "33ce3480d107d545c51a0a07eb2e1ab9e58d383f7756026f7b68ba058d50fdcc", func := "crier/crierlaw33.EdgeZero", spec := "edgeZero", inPlace := ["internal/reflectlite.ValueOf", "(internal/reflectlite.Value).Type", "(internal/reflectlite.Value).IsNil", "internal/reflectlite.TypeOf", "(internal/reflectlite.Value).Elem", "(internal/reflectlite.Value).Set", "slices.overlaps[*crier/device.Device]"], unfollowed := true, recurses := true, named := ["errors.errorType"], loops := true, apart := false, laid := [("errors.errorType", laid_errors_errorType)], narrowed := true }
def EdgeZeroUptoSaid : Prop := edgeZeroUptoRow.holds Tryz.pinned (OpenSpec.upto edgeZeroSpec)

end Rows
end Go.Proofs.YtjfmbjgniajagaaGreatDoor
