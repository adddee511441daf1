/-
  No cell of these rows narrows 'for every input' (looked for: loops, veiled, ifaces, maps, wideKeys, modest, calm, conditions, laid).
  DERIVED. THE GIVEN ROWS OF THIS SEAT. 4 by the template 'for every input the law returns true; each argument reads behind the call as it read before'; 0 by the template 'total and deterministic' (their statements: YtnodacfhkgkliaaTotals.lean).
  GIVEN WITH THE SEED: the statements are not yours to turn. If you find one false, say at which input.
  Laid BY PROGRAM, IN A SANDBOX (cutbox-rows.mjs): the forced cells as the released guide's own fill.sh prints them over the translation 3c9558daab076a83… (all of the seat's roots in one cut). By AI agents, Wed Nov 11 2026. No macro, syntax, notation, axiom, sorry.
-/
import Derived.Test.YtnodacfhkgkliaaChecked
import GoSem.Claim
import GoSem.ClaimJoined
import GoSem.ClaimMapViews
import Derived.JoinedTies
import Derived.KernelRfl
namespace Go.Proofs.Ytnodacfhkgkliaa
/- THE CELL 'sum', in the pinned program and in every row, IS THE sha256 OF THE DUMP (.gsa) THAT YtnodacfhkgkliaaProg.lean LOADS. Nothing in Lean hashes anything: it is a label: what it is worth is what the hold of that sum in a sandbox is worth. -/
noncomputable def Try.pinned : Pinned := { name := "ytnodacfhkgkliaa", sum := "3c9558daab076a83a99d2e1bed47fdd0ff9102c40f4208063253798096d4e966", checked := Try.checked }
namespace Rows
def none {H : Type} : Left H := { results := [], args := [] }

/-- 'crierlaw34.HostLast': WHATEVER THE INPUT: true; the input reads as it did. -/
def hostLastSpec : ChangeSpec := { name := "hostLast", fn := fun _ => fun
  | [d1, d2, d3] => { results := [.lit (.bool true)], args := [d1, d2, d3] }
  | _ => none }
def hostLastRow : OpenClaim := { program := "ytnodacfhkgkliaa", sum := "3c9558daab076a83a99d2e1bed47fdd0ff9102c40f4208063253798096d4e966", func := "crier/crierlaw34.HostLast", spec := "hostLast", apart := false }
def HostLastSaid : Prop := hostLastRow.holds Try.pinned (OpenSpec.ofChange hostLastSpec)

/-- ITS FALSE NEIGHBOUR: 'it returns false'. Refute it at one input. -/
def hostLastWrong : ChangeSpec := { name := "hostLast", fn := fun _ => fun
  | [d1, d2, d3] => { results := [.lit (.bool false)], args := [d1, d2, d3] }
  | _ => none }
def HostLastWrongFalsely : Prop := hostLastRow.holds Try.pinned (OpenSpec.ofChange hostLastWrong)

/-- 'crierlaw34.HostRoom': WHATEVER THE INPUT: true; the input reads as it did. -/
def hostRoomSpec : ChangeSpec := { name := "hostRoom", fn := fun _ => fun
  | [d1, d2, d3] => { results := [.lit (.bool true)], args := [d1, d2, d3] }
  | _ => none }
def hostRoomRow : OpenClaim := { program := "ytnodacfhkgkliaa", sum := "3c9558daab076a83a99d2e1bed47fdd0ff9102c40f4208063253798096d4e966", func := "crier/crierlaw34.HostRoom", spec := "hostRoom", apart := false }
def HostRoomSaid : Prop := hostRoomRow.holds Try.pinned (OpenSpec.ofChange hostRoomSpec)

/-- ITS FALSE NEIGHBOUR: 'it returns false'. Refute it at one input. -/
def hostRoomWrong : ChangeSpec := { name := "hostRoom", fn := fun _ => fun
  | [d1, d2, d3] => { results := [.lit (.bool false)], args := [d1, d2, d3] }
  | _ => none }
def HostRoomWrongFalsely : Prop := hostRoomRow.holds Try.pinned (OpenSpec.ofChange hostRoomWrong)

/-- 'crierlaw34.HostPlays': WHATEVER THE INPUT: true; the input reads as it did. -/
def hostPlaysSpec : ChangeSpec := { name := "hostPlays", fn := fun _ => fun
  | [d1, d2] => { results := [.lit (.bool true)], args := [d1, d2] }
  | _ => none }
def hostPlaysRow : OpenClaim := { program := "ytnodacfhkgkliaa", sum := "3c9558daab076a83a99d2e1bed47fdd0ff9102c40f4208063253798096d4e966", func := "crier/crierlaw34.HostPlays", spec := "hostPlays", unfollowed := true, recurses := true, apart := false }
def HostPlaysSaid : Prop := hostPlaysRow.holds Try.pinned (OpenSpec.ofChange hostPlaysSpec)

/-- ITS FALSE NEIGHBOUR: 'it returns false'. Refute it at one input. -/
def hostPlaysWrong : ChangeSpec := { name := "hostPlays", fn := fun _ => fun
  | [d1, d2] => { results := [.lit (.bool false)], args := [d1, d2] }
  | _ => none }
def HostPlaysWrongFalsely : Prop := hostPlaysRow.holds Try.pinned (OpenSpec.ofChange hostPlaysWrong)

/-- 'crierlaw34.HostZero': WHATEVER THE INPUT: true; the input reads as it did. -/
def hostZeroSpec : ChangeSpec := { name := "hostZero", fn := fun _ => fun
  | [d1, d2] => { results := [.lit (.bool true)], args := [d1, d2] }
  | _ => none }
def hostZeroRow : OpenClaim := { program := "ytnodacfhkgkliaa", sum := "3c9558daab076a83a99d2e1bed47fdd0ff9102c40f4208063253798096d4e966", func := "crier/crierlaw34.HostZero", spec := "hostZero", unfollowed := true, recurses := true, apart := false }
def HostZeroSaid : Prop := hostZeroRow.holds Try.pinned (OpenSpec.ofChange hostZeroSpec)

/-- ITS FALSE NEIGHBOUR: 'it returns false'. Refute it at one input. -/
def hostZeroWrong : ChangeSpec := { name := "hostZero", fn := fun _ => fun
  | [d1, d2] => { results := [.lit (.bool false)], args := [d1, d2] }
  | _ => none }
def HostZeroWrongFalsely : Prop := hostZeroRow.holds Try.pinned (OpenSpec.ofChange hostZeroWrong)

/- THE SECOND FORM. 'bulk': how many values and letters a reading holds, each counted each time it is reached (what is shared counts as often as it is met; a slice's spare places count too). A statement '..UptoSaid' is the law's where the arguments, and the package variables that the reading takes, are together of bulk at most 1048576: NARROWER than '..Said'. Prove '..Said' where nothing that the law and all that it calls make is longer than what came in: it says more and counts as full. Else prove '..UptoSaid'. A law counts once. -/
mutual
def uptoBulk {H : Type} : DataW H → Nat
  | .lit (.string bytes) => bytes.length + 1
  | .lit _ => 1
  | .nil => 1
  | .ptr d => uptoBulk d + 1
  | .slice elems spare => uptoBulkAll elems + uptoBulkAll spare + 1
  | .agg parts => uptoBulkAll parts + 1
  | .iface _ d => uptoBulk d + 1
  | .map entries => uptoBulkEntries entries + 1
  | .held _ => 1
def uptoBulkAll {H : Type} : List (DataW H) → Nat
  | [] => 0
  | d :: r => uptoBulk d + uptoBulkAll r
def uptoBulkEntries {H : Type} : List (Lit × DataW H) → Nat
  | [] => 0
  | x :: r => uptoBulkEntry x + uptoBulkEntries r
def uptoBulkEntry {H : Type} : Lit × DataW H → Nat
  | (.string bytes, d) => bytes.length + uptoBulk d + 1
  | (_, d) => uptoBulk d + 1
 end
def uptoSmall : (H : Type) → List (DataW H) → Bool := fun _ ds => decide (uptoBulkAll ds ≤ 1048576)
def OpenSpec.upto (s : _root_.Go.ChangeSpec) : _root_.Go.OpenSpec := { _root_.Go.OpenSpec.ofChange s with cond := some uptoSmall }

/-- 'crierlaw34.HostLast', WHERE WHAT IT READS IS OF BULK AT MOST 1048576: true; the input reads as it did. -/
def hostLastUptoRow : OpenClaim := { program := "ytnodacfhkgkliaa", sum := "3c9558daab076a83a99d2e1bed47fdd0ff9102c40f4208063253798096d4e966", func := "crier/crierlaw34.HostLast", spec := "hostLast", apart := false, narrowed := true }
def HostLastUptoSaid : Prop := hostLastUptoRow.holds Try.pinned (OpenSpec.upto hostLastSpec)

/-- 'crierlaw34.HostRoom', WHERE WHAT IT READS IS OF BULK AT MOST 1048576: true; the input reads as it did. -/
def hostRoomUptoRow : OpenClaim := { program := "ytnodacfhkgkliaa", sum := "3c9558daab076a83a99d2e1bed47fdd0ff9102c40f4208063253798096d4e966", func := "crier/crierlaw34.HostRoom", spec := "hostRoom", apart := false, narrowed := true }
def HostRoomUptoSaid : Prop := hostRoomUptoRow.holds Try.pinned (OpenSpec.upto hostRoomSpec)

/-- 'crierlaw34.HostPlays', WHERE WHAT IT READS IS OF BULK AT MOST 1048576: true; the input reads as it did. -/
def hostPlaysUptoRow : OpenClaim := { program := "ytnodacfhkgkliaa", sum := "3c9558daab076a83a99d2e1bed47fdd0ff9102c40f4208063253798096d4e966", func := "crier/crierlaw34.HostPlays", spec := "hostPlays", unfollowed := true, recurses := true, apart := false, narrowed := true }
def HostPlaysUptoSaid : Prop := hostPlaysUptoRow.holds Try.pinned (OpenSpec.upto hostPlaysSpec)

/-- 'crierlaw34.HostZero', WHERE WHAT IT READS IS OF BULK AT MOST 1048576: true; the input reads as it did. -/
def hostZeroUptoRow : OpenClaim := { program := "ytnodacfhkgkliaa", sum := "3c9558daab076a83a99d2e1bed47fdd0ff9102c40f4208063253798096d4e966", func := "crier/crierlaw34.HostZero", spec := "hostZero", unfollowed := true, recurses := true, apart := false, narrowed := true }
def HostZeroUptoSaid : Prop := hostZeroUptoRow.holds Try.pinned (OpenSpec.upto hostZeroSpec)

end Rows
end Go.Proofs.Ytnodacfhkgkliaa
