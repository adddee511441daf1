/-
  NARROWER THAN 'FOR EVERY INPUT', by the rows' own cells (each row's printed sentence says how): SparkAsks: laid · SparkBorn: laid · SparkAlone: laid · SparkRefused: laid · SparkPlays: laid.
  DERIVED. THE GIVEN ROWS OF THIS SEAT. 5 by the template 'for every input the law returns true; each argument reads behind the call as it read before'; 0 by the template 'total and deterministic' (their statements: YtedcakchekaemaaGreatDoorTotals.lean).
  GIVEN WITH THE SEED: the statements are not yours to turn. If you find one false, say at which input.
  Laid BY PROGRAM, IN A SANDBOX (cutbox-rows.mjs): the forced cells as the released guide's own fill.sh prints them over the translation 89007721f448d655… (all of the seat's roots in one cut). By AI agents, Wed Nov 11 2026. No macro, syntax, notation, axiom, sorry.
-/
import Derived.Test.YtedcakchekaemaaGreatDoorChecked
import GoSem.PinnedTables
import GoSem.Claim
import GoSem.ClaimJoined
import GoSem.ClaimMapViews
import Derived.JoinedTies
import Derived.KernelRfl
namespace Go.Proofs.YtedcakchekaemaaGreatDoor
/- THE CELL 'sum', in the pinned program and in every row, IS THE sha256 OF THE DUMP (.gsa) THAT YtedcakchekaemaaGreatDoorProg.lean LOADS. Nothing in Lean hashes anything: it is a label: what it is worth is what the hold of that sum in a sandbox is worth. -/
noncomputable def Tryz.pinned : Pinned := { name := "ytedcakchekaemaagreatdoor", sum := "89007721f448d655c32fdd6c8bb1d5405bff19874b9dfdbc9db1de9b44809452", checked := Tryz.checked }
namespace Rows
def none {H : Type} : Left H := { results := [], args := [] }

/- WHAT THE LISTED PACKAGE-LEVEL VARIABLES READ AS WHEN THE CALL BEGINS. Each datum BY PROGRAM (the guide's laid-datum.mjs) off the statement by which the dump's own 'gosem.cut.vars' lays the variable. In a bare row this is a premise. The card (YtedcakchekaemaaGreatDoorCards.lean) ties it to the program's text. -/
def laid_unicode_utf8_acceptRanges {H : Type} : DataW H := .agg [.agg [.lit (.int .u8 128), .lit (.int .u8 191)], .agg [.lit (.int .u8 160), .lit (.int .u8 191)], .agg [.lit (.int .u8 128), .lit (.int .u8 159)], .agg [.lit (.int .u8 144), .lit (.int .u8 191)], .agg [.lit (.int .u8 128), .lit (.int .u8 143)], .agg [.lit (.int .u8 0), .lit (.int .u8 0)], .agg [.lit (.int .u8 0), .lit (.int .u8 0)], .agg [.lit (.int .u8 0), .lit (.int .u8 0)], .agg [.lit (.int .u8 0), .lit (.int .u8 0)], .agg [.lit (.int .u8 0), .lit (.int .u8 0)], .agg [.lit (.int .u8 0), .lit (.int .u8 0)], .agg [.lit (.int .u8 0), .lit (.int .u8 0)], .agg [.lit (.int .u8 0), .lit (.int .u8 0)], .agg [.lit (.int .u8 0), .lit (.int .u8 0)], .agg [.lit (.int .u8 0), .lit (.int .u8 0)], .agg [.lit (.int .u8 0), .lit (.int .u8 0)]]
def laid_errors_errorType {H : Type} : DataW H := .iface "internal/reflectlite.rtype" (.agg [.ptr (.lit (.string [101, 114, 114, 111, 114]))])
def laid_crier_space_words {H : Type} : DataW H := .agg [.lit (.string []), .lit (.string [78, 66, 73, 82, 84, 72]), .lit (.string [78, 68, 69, 65, 84, 72]), .lit (.string [78, 68, 65, 84, 65]), .lit (.string [78, 67, 77, 68]), .lit (.string [68, 66, 73, 82, 84, 72]), .lit (.string [68, 68, 69, 65, 84, 72]), .lit (.string [68, 68, 65, 84, 65]), .lit (.string [68, 67, 77, 68]), .lit (.string [83, 84, 65, 84, 69])]
/-- One of Go's own tables, pinned by name: the form's constant. -/
def laid_unicode_utf8_first : DataW Unit := Go.Pinned.utf8First

/-- 'crierlaw37.SparkAsks': WHATEVER THE INPUT: true; the input reads as it did. -/
def sparkAsksSpec : ChangeSpec := { name := "sparkAsks", fn := fun _ => fun
  | [d1, d2] => { results := [.lit (.bool true)], args := [d1, d2] }
  | _ => none }
def sparkAsksRow : OpenClaim := { program := "ytedcakchekaemaagreatdoor", sum := "89007721f448d655c32fdd6c8bb1d5405bff19874b9dfdbc9db1de9b44809452", func := "crier/crierlaw37.SparkAsks", spec := "sparkAsks", inPlace := ["internal/bytealg.CountString", "internal/bytealg.IndexByteString", "internal/bytealg.IndexString", "internal/abi.NoEscape", "internal/bytealg.MakeNoZero", "internal/reflectlite.ValueOf", "(internal/reflectlite.Value).Type", "(internal/reflectlite.Value).IsNil", "internal/reflectlite.TypeOf", "(internal/reflectlite.Value).Elem", "(internal/reflectlite.Value).Set", "slices.overlaps[*crier/device.Device]", "slices.overlaps[crier/births.birth]"], unfollowed := true, recurses := true, named := ["internal/bytealg.MaxLen", "crier/space.words", "unicode/utf8.first", "unicode/utf8.acceptRanges", "errors.errorType"], plainKeys := false, apart := false, laid := [("unicode/utf8.acceptRanges", laid_unicode_utf8_acceptRanges), ("errors.errorType", laid_errors_errorType), ("crier/space.words", laid_crier_space_words), ("unicode/utf8.first", laid_unicode_utf8_first)] }
def SparkAsksSaid : Prop := sparkAsksRow.holds Tryz.pinned (OpenSpec.ofChange sparkAsksSpec)

/-- ITS FALSE NEIGHBOUR: 'it returns false'. Refute it at one input. -/
def sparkAsksWrong : ChangeSpec := { name := "sparkAsks", fn := fun _ => fun
  | [d1, d2] => { results := [.lit (.bool false)], args := [d1, d2] }
  | _ => none }
def SparkAsksWrongFalsely : Prop := sparkAsksRow.holds Tryz.pinned (OpenSpec.ofChange sparkAsksWrong)

/-- 'crierlaw37.SparkBorn': WHATEVER THE INPUT: true; the input reads as it did. -/
def sparkBornSpec : ChangeSpec := { name := "sparkBorn", fn := fun _ => fun
  | [d] => { results := [.lit (.bool true)], args := [d] }
  | _ => none }
def sparkBornRow : OpenClaim := { program := "ytedcakchekaemaagreatdoor", sum := "89007721f448d655c32fdd6c8bb1d5405bff19874b9dfdbc9db1de9b44809452", func := "crier/crierlaw37.SparkBorn", spec := "sparkBorn", inPlace := ["internal/bytealg.CountString", "internal/bytealg.IndexByteString", "internal/bytealg.IndexString", "internal/abi.NoEscape", "internal/bytealg.MakeNoZero", "internal/reflectlite.ValueOf", "(internal/reflectlite.Value).Type", "(internal/reflectlite.Value).IsNil", "internal/reflectlite.TypeOf", "(internal/reflectlite.Value).Elem", "(internal/reflectlite.Value).Set", "slices.overlaps[*crier/device.Device]", "slices.overlaps[crier/births.birth]"], unfollowed := true, recurses := true, named := ["internal/bytealg.MaxLen", "crier/space.words", "unicode/utf8.first", "unicode/utf8.acceptRanges", "errors.errorType"], plainKeys := false, apart := false, laid := [("unicode/utf8.acceptRanges", laid_unicode_utf8_acceptRanges), ("errors.errorType", laid_errors_errorType), ("crier/space.words", laid_crier_space_words), ("unicode/utf8.first", laid_unicode_utf8_first)] }
def SparkBornSaid : Prop := sparkBornRow.holds Tryz.pinned (OpenSpec.ofChange sparkBornSpec)

/-- ITS FALSE NEIGHBOUR: 'it returns false'. Refute it at one input. -/
def sparkBornWrong : ChangeSpec := { name := "sparkBorn", fn := fun _ => fun
  | [d] => { results := [.lit (.bool false)], args := [d] }
  | _ => none }
def SparkBornWrongFalsely : Prop := sparkBornRow.holds Tryz.pinned (OpenSpec.ofChange sparkBornWrong)

/-- 'crierlaw37.SparkAlone': WHATEVER THE INPUT: true; the input reads as it did. -/
def sparkAloneSpec : ChangeSpec := { name := "sparkAlone", fn := fun _ => fun
  | [d1, d2] => { results := [.lit (.bool true)], args := [d1, d2] }
  | _ => none }
def sparkAloneRow : OpenClaim := { program := "ytedcakchekaemaagreatdoor", sum := "89007721f448d655c32fdd6c8bb1d5405bff19874b9dfdbc9db1de9b44809452", func := "crier/crierlaw37.SparkAlone", spec := "sparkAlone", inPlace := ["internal/bytealg.CountString", "internal/bytealg.IndexByteString", "internal/bytealg.IndexString", "internal/abi.NoEscape", "internal/bytealg.MakeNoZero", "internal/reflectlite.ValueOf", "(internal/reflectlite.Value).Type", "(internal/reflectlite.Value).IsNil", "internal/reflectlite.TypeOf", "(internal/reflectlite.Value).Elem", "(internal/reflectlite.Value).Set", "slices.overlaps[*crier/device.Device]", "slices.overlaps[crier/births.birth]"], unfollowed := true, recurses := true, named := ["internal/bytealg.MaxLen", "crier/space.words", "unicode/utf8.first", "unicode/utf8.acceptRanges", "errors.errorType"], plainKeys := false, apart := false, laid := [("unicode/utf8.acceptRanges", laid_unicode_utf8_acceptRanges), ("errors.errorType", laid_errors_errorType), ("crier/space.words", laid_crier_space_words), ("unicode/utf8.first", laid_unicode_utf8_first)] }
def SparkAloneSaid : Prop := sparkAloneRow.holds Tryz.pinned (OpenSpec.ofChange sparkAloneSpec)

/-- ITS FALSE NEIGHBOUR: 'it returns false'. Refute it at one input. -/
def sparkAloneWrong : ChangeSpec := { name := "sparkAlone", fn := fun _ => fun
  | [d1, d2] => { results := [.lit (.bool false)], args := [d1, d2] }
  | _ => none }
def SparkAloneWrongFalsely : Prop := sparkAloneRow.holds Tryz.pinned (OpenSpec.ofChange sparkAloneWrong)

/-- 'crierlaw37.SparkRefused': WHATEVER THE INPUT: true; the input reads as it did. -/
def sparkRefusedSpec : ChangeSpec := { name := "sparkRefused", fn := fun _ => fun
  | [d1, d2] => { results := [.lit (.bool true)], args := [d1, d2] }
  | _ => none }
def sparkRefusedRow : OpenClaim := { program := "ytedcakchekaemaagreatdoor", sum := "89007721f448d655c32fdd6c8bb1d5405bff19874b9dfdbc9db1de9b44809452", func := "crier/crierlaw37.SparkRefused", spec := "sparkRefused", inPlace := ["internal/bytealg.CountString", "internal/bytealg.IndexByteString", "internal/bytealg.IndexString", "internal/abi.NoEscape", "internal/bytealg.MakeNoZero", "internal/reflectlite.ValueOf", "(internal/reflectlite.Value).Type", "(internal/reflectlite.Value).IsNil", "internal/reflectlite.TypeOf", "(internal/reflectlite.Value).Elem", "(internal/reflectlite.Value).Set", "slices.overlaps[*crier/device.Device]", "slices.overlaps[crier/births.birth]"], unfollowed := true, recurses := true, named := ["internal/bytealg.MaxLen", "crier/space.words", "unicode/utf8.first", "unicode/utf8.acceptRanges", "errors.errorType"], plainKeys := false, apart := false, laid := [("unicode/utf8.acceptRanges", laid_unicode_utf8_acceptRanges), ("errors.errorType", laid_errors_errorType), ("crier/space.words", laid_crier_space_words), ("unicode/utf8.first", laid_unicode_utf8_first)] }
def SparkRefusedSaid : Prop := sparkRefusedRow.holds Tryz.pinned (OpenSpec.ofChange sparkRefusedSpec)

/-- ITS FALSE NEIGHBOUR: 'it returns false'. Refute it at one input. -/
def sparkRefusedWrong : ChangeSpec := { name := "sparkRefused", fn := fun _ => fun
  | [d1, d2] => { results := [.lit (.bool false)], args := [d1, d2] }
  | _ => none }
def SparkRefusedWrongFalsely : Prop := sparkRefusedRow.holds Tryz.pinned (OpenSpec.ofChange sparkRefusedWrong)

/-- 'crierlaw37.SparkPlays': WHATEVER THE INPUT: true; the input reads as it did. -/
def sparkPlaysSpec : ChangeSpec := { name := "sparkPlays", fn := fun _ => fun
  | [d1, d2, d3] => { results := [.lit (.bool true)], args := [d1, d2, d3] }
  | _ => none }
def sparkPlaysRow : OpenClaim := { program := "ytedcakchekaemaagreatdoor", sum := "89007721f448d655c32fdd6c8bb1d5405bff19874b9dfdbc9db1de9b44809452", func := "crier/crierlaw37.SparkPlays", spec := "sparkPlays", inPlace := ["internal/bytealg.CountString", "internal/bytealg.IndexByteString", "internal/bytealg.IndexString", "internal/abi.NoEscape", "internal/bytealg.MakeNoZero", "internal/reflectlite.ValueOf", "(internal/reflectlite.Value).Type", "(internal/reflectlite.Value).IsNil", "internal/reflectlite.TypeOf", "(internal/reflectlite.Value).Elem", "(internal/reflectlite.Value).Set", "slices.overlaps[*crier/device.Device]", "slices.overlaps[crier/births.birth]"], unfollowed := true, recurses := true, named := ["internal/bytealg.MaxLen", "crier/space.words", "unicode/utf8.first", "unicode/utf8.acceptRanges", "errors.errorType"], plainKeys := false, apart := false, laid := [("unicode/utf8.acceptRanges", laid_unicode_utf8_acceptRanges), ("errors.errorType", laid_errors_errorType), ("crier/space.words", laid_crier_space_words), ("unicode/utf8.first", laid_unicode_utf8_first)] }
def SparkPlaysSaid : Prop := sparkPlaysRow.holds Tryz.pinned (OpenSpec.ofChange sparkPlaysSpec)

/-- ITS FALSE NEIGHBOUR: 'it returns false'. Refute it at one input. -/
def sparkPlaysWrong : ChangeSpec := { name := "sparkPlays", fn := fun _ => fun
  | [d1, d2, d3] => { results := [.lit (.bool false)], args := [d1, d2, d3] }
  | _ => none }
def SparkPlaysWrongFalsely : Prop := sparkPlaysRow.holds Tryz.pinned (OpenSpec.ofChange sparkPlaysWrong)

/- THE SECOND FORM. 'bulk': how many values and letters a reading holds, each counted each time it is reached (what is shared counts as often as it is met; a slice's spare places count too). A statement '..UptoSaid' is the law's where the arguments, and the package variables that the reading takes, are together of bulk at most 1048576: NARROWER than '..Said'. Prove '..Said' where nothing that the law and all that it calls make is longer than what came in: it says more and counts as full. Else prove '..UptoSaid'. A law counts once. -/
mutual
def uptoBulk {H : Type} : DataW H → Nat
  | .lit (.string bytes) => bytes.length + 1
  | .lit _ => 1
  | .nil => 1
  | .ptr d => uptoBulk d + 1
  | .slice elems spare => uptoBulkAll elems + uptoBulkAll spare + 1
  | .agg parts => uptoBulkAll parts + 1
  | .iface _ d => uptoBulk d + 1
  | .map entries => uptoBulkEntries entries + 1
  | .held _ => 1
def uptoBulkAll {H : Type} : List (DataW H) → Nat
  | [] => 0
  | d :: r => uptoBulk d + uptoBulkAll r
def uptoBulkEntries {H : Type} : List (Lit × DataW H) → Nat
  | [] => 0
  | x :: r => uptoBulkEntry x + uptoBulkEntries r
def uptoBulkEntry {H : Type} : Lit × DataW H → Nat
  | (.string bytes, d) => bytes.length + uptoBulk d + 1
  | (_, d) => uptoBulk d + 1
 end
def uptoSmall : (H : Type) → List (DataW H) → Bool := fun _ ds => decide (uptoBulkAll ds ≤ 1048576)
def OpenSpec.upto (s : _root_.Go.ChangeSpec) : _root_.Go.OpenSpec := { _root_.Go.OpenSpec.ofChange s with cond := some uptoSmall }

/-- 'crierlaw37.SparkAsks', WHERE WHAT IT READS IS OF BULK AT MOST 1048576: true; the input reads as it did. -/
def sparkAsksUptoRow : OpenClaim := { program := "ytedcakchekaemaagreatdoor", sum := "89007721f448d655c32fdd6c8bb1d5405bff19874b9dfdbc9db1de9b44809452", func := "crier/crierlaw37.SparkAsks", spec := "sparkAsks", inPlace := ["internal/bytealg.CountString", "internal/bytealg.IndexByteString", "internal/bytealg.IndexString", "internal/abi.NoEscape", "internal/bytealg.MakeNoZero", "internal/reflectlite.ValueOf", "(internal/reflectlite.Value).Type", "(internal/reflectlite.Value).IsNil", "internal/reflectlite.TypeOf", "(internal/reflectlite.Value).Elem", "(internal/reflectlite.Value).Set", "slices.overlaps[*crier/device.Device]", "slices.overlaps[crier/births.birth]"], unfollowed := true, recurses := true, named := ["internal/bytealg.MaxLen", "crier/space.words", "unicode/utf8.first", "unicode/utf8.acceptRanges", "errors.errorType"], plainKeys := false, apart := false, laid := [("unicode/utf8.acceptRanges", laid_unicode_utf8_acceptRanges), ("errors.errorType", laid_errors_errorType), ("crier/space.words", laid_crier_space_words), ("unicode/utf8.first", laid_unicode_utf8_first)], narrowed := true }
def SparkAsksUptoSaid : Prop := sparkAsksUptoRow.holds Tryz.pinned (OpenSpec.upto sparkAsksSpec)

/-- 'crierlaw37.SparkBorn', WHERE WHAT IT READS IS OF BULK AT MOST 1048576: true; the input reads as it did. -/
def sparkBornUptoRow : OpenClaim := { program := "ytedcakchekaemaagreatdoor", sum := "89007721f448d655c32fdd6c8bb1d5405bff19874b9dfdbc9db1de9b44809452", func := "crier/crierlaw37.SparkBorn", spec := "sparkBorn", inPlace := ["internal/bytealg.CountString", "internal/bytealg.IndexByteString", "internal/bytealg.IndexString", "internal/abi.NoEscape", "internal/bytealg.MakeNoZero", "internal/reflectlite.ValueOf", "(internal/reflectlite.Value).Type", "(internal/reflectlite.Value).IsNil", "internal/reflectlite.TypeOf", "(internal/reflectlite.Value).Elem", "(internal/reflectlite.Value).Set", "slices.overlaps[*crier/device.Device]", "slices.overlaps[crier/births.birth]"], unfollowed := true, recurses := true, named := ["internal/bytealg.MaxLen", "crier/space.words", "unicode/utf8.first", "unicode/utf8.acceptRanges", "errors.errorType"], plainKeys := false, apart := false, laid := [("unicode/utf8.acceptRanges", laid_unicode_utf8_acceptRanges), ("errors.errorType", laid_errors_errorType), ("crier/space.words", laid_crier_space_words), ("unicode/utf8.first", laid_unicode_utf8_first)], narrowed := true }
def SparkBornUptoSaid : Prop := sparkBornUptoRow.holds Tryz.pinned (OpenSpec.upto sparkBornSpec)

/-- 'crierlaw37.SparkAlone', WHERE WHAT IT READS IS OF BULK AT MOST 1048576: true; the input reads as it did. -/
def sparkAloneUptoRow : OpenClaim := { program := "ytedcakchekaemaagreatdoor", sum := "89007721f448d655c32fdd6c8bb1d5405bff19874b9dfdbc9db1de9b44809452", func := "crier/crierlaw37.SparkAlone", spec := "sparkAlone", inPlace := ["internal/bytealg.CountString", "internal/bytealg.IndexByteString", "internal/bytealg.IndexString", "internal/abi.NoEscape", "internal/bytealg.MakeNoZero", "internal/reflectlite.ValueOf", "(internal/reflectlite.Value).Type", "(internal/reflectlite.Value).IsNil", "internal/reflectlite.TypeOf", "(internal/reflectlite.Value).Elem", "(internal/reflectlite.Value).Set", "slices.overlaps[*crier/device.Device]", "slices.overlaps[crier/births.birth]"], unfollowed := true, recurses := true, named := ["internal/bytealg.MaxLen", "crier/space.words", "unicode/utf8.first", "unicode/utf8.acceptRanges", "errors.errorType"], plainKeys := false, apart := false, laid := [("unicode/utf8.acceptRanges", laid_unicode_utf8_acceptRanges), ("errors.errorType", laid_errors_errorType), ("crier/space.words", laid_crier_space_words), ("unicode/utf8.first", laid_unicode_utf8_first)], narrowed := true }
def SparkAloneUptoSaid : Prop := sparkAloneUptoRow.holds Tryz.pinned (OpenSpec.upto sparkAloneSpec)

/-- 'crierlaw37.SparkRefused', WHERE WHAT IT READS IS OF BULK AT MOST 1048576: true; the input reads as it did. -/
def sparkRefusedUptoRow : OpenClaim := { program := "ytedcakchekaemaagreatdoor", sum := "89007721f448d655c32fdd6c8bb1d5405bff19874b9dfdbc9db1de9b44809452", func := "crier/crierlaw37.SparkRefused", spec := "sparkRefused", inPlace := ["internal/bytealg.CountString", "internal/bytealg.IndexByteString", "internal/bytealg.IndexString", "internal/abi.NoEscape", "internal/bytealg.MakeNoZero", "internal/reflectlite.ValueOf", "(internal/reflectlite.Value).Type", "(internal/reflectlite.Value).IsNil", "internal/reflectlite.TypeOf", "(internal/reflectlite.Value).Elem", "(internal/reflectlite.Value).Set", "slices.overlaps[*crier/device.Device]", "slices.overlaps[crier/births.birth]"], unfollowed := true, recurses := true, named := ["internal/bytealg.MaxLen", "crier/space.words", "unicode/utf8.first", "unicode/utf8.acceptRanges", "errors.errorType"], plainKeys := false, apart := false, laid := [("unicode/utf8.acceptRanges", laid_unicode_utf8_acceptRanges), ("errors.errorType", laid_errors_errorType), ("crier/space.words", laid_crier_space_words), ("unicode/utf8.first", laid_unicode_utf8_first)], narrowed := true }
def SparkRefusedUptoSaid : Prop := sparkRefusedUptoRow.holds Tryz.pinned (OpenSpec.upto sparkRefusedSpec)

/-- 'crierlaw37.SparkPlays', WHERE WHAT IT READS IS OF BULK AT MOST 1048576: true; the input reads as it did. -/
def sparkPlaysUptoRow : OpenClaim := { program := "ytedcakchekaemaagreatdoor", sum := "89007721f448d655c32fdd6c8bb1d5405bff19874b9dfdbc9db1de9b44809452", func := "crier/crierlaw37.SparkPlays", spec := "sparkPlays", inPlace := ["internal/bytealg.CountString", "internal/bytealg.IndexByteString", "internal/bytealg.IndexString", "internal/abi.NoEscape", "internal/bytealg.MakeNoZero", "internal/reflectlite.ValueOf", "(internal/reflectlite.Value).Type", "(internal/reflectlite.Value).IsNil", "internal/reflectlite.TypeOf", "(internal/reflectlite.Value).Elem", "(internal/reflectlite.Value).Set", "slices.overlaps[*crier/device.Device]", "slices.overlaps[crier/births.birth]"], unfollowed := true, recurses := true, named := ["internal/bytealg.MaxLen", "crier/space.words", "unicode/utf8.first", "unicode/utf8.acceptRanges", "errors.errorType"], plainKeys := false, apart := false, laid := [("unicode/utf8.acceptRanges", laid_unicode_utf8_acceptRanges), ("errors.errorType", laid_errors_errorType), ("crier/space.words", laid_crier_space_words), ("unicode/utf8.first", laid_unicode_utf8_first)], narrowed := true }
def SparkPlaysUptoSaid : Prop := sparkPlaysUptoRow.holds Tryz.pinned (OpenSpec.upto sparkPlaysSpec)

end Rows
end Go.Proofs.YtedcakchekaemaaGreatDoor
