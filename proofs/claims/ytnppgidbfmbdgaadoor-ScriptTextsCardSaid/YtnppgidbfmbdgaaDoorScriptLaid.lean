/- The library's variables that the rows list; how arguments are told to a walk. -/
import Derived.Test.YtnppgidbfmbdgaaDoorScriptPrint
import Derived.Test.YtnppgidbfmbdgaaDoorScriptFill
import Derived.Test.YtnppgidbfmbdgaaDoorFlat
import Derived.Test.YtnppgidbfmbdgaaDoorCards
import Derived.Test.YtnppgidbfmbdgaaDoorTie
import Derived.PinnedBridge
import Derived.Lib.LaidIn
import Derived.Lib.LaidU8
import Derived.Lib.LaidTab
import Derived.Deep.DeepHandedRow
import Derived.Deep.DeepWitnessRowRef
namespace Go.Proofs.YtnppgidbfmbdgaaDoor
open Go.RowKit Go.Shelf Go.Lib
def listed : List (String × DataW Unit) := [("math/bits.deBruijn32tab", Rows.laid_math_bits_deBruijn32tab), ("math/bits.deBruijn64tab", Rows.laid_math_bits_deBruijn64tab), ("internal/strconv.uint64pow10", Rows.laid_internal_strconv_uint64pow10), ("unicode/utf8.acceptRanges", Rows.laid_unicode_utf8_acceptRanges), ("unicode/utf8.first", Rows.laid_unicode_utf8_first)]
theorem pow10_eq : (Rows.laid_internal_strconv_uint64pow10 : DataW Unit) = Lib.tabData .u64 Lib.pow10Tab := by kernel_rfl
/-- What the walks lean on. -/
def Tabs40 (w : World) : Prop := Pow10 w ∧ MaxCell w
theorem tabs_of {W : World} (h : laidMetH Tryd.prog listed W) (hs : W.ShapedOpen Tryd.prog) : Tabs40 W := by
  refine ⟨?_, Tryd.laysSplitM.s1_3 W hs⟩
  obtain ⟨g', t', cs, fuel, p, hg', ht', hvar, hd⟩ := Lib.laidMet.reads h (n := "internal/strconv.uint64pow10") (d := Rows.laid_internal_strconv_uint64pow10) (.tail _ (.tail _ (.head _)))
  rw [pow10_eq] at hd
  obtain rfl := Option.some.inj ((show Tryd.prog.globalNamed "internal/strconv.uint64pow10" = some 0 by kernel_rfl).symm.trans hg')
  obtain rfl := Option.some.inj ((show (Tryd.prog.globals[0]?).map (·.type) = some 91 by kernel_rfl).symm.trans ht')
  unfold Pow10 Lib.TabIs
  rw [hvar, ← cells_of_tab Tryd.underlying91 Tryd.underlying80 (by kernel_rfl) (by kernel_rfl) hd]
/-- An array of numbers, as cells. -/
def numsOf : DataW Unit → Array Value
  | .agg l => (l.map fun d => match d with | .lit (.int k n) => Value.int k n | _ => Value.bool false).toArray
  | _ => #[]
noncomputable def laidWorld (os : Os) : World :=
  let w0 := World.holding Tryd.prog os ⟨#[], #[], []⟩
  let put (h : Array Obj) (g : Nat) (cs : Array Value) : Array Obj := h.modify g fun
    | .cells _ t frozen => .cells cs t frozen
    | o => o
  let h1 := put w0.heap 2 (Lib.firstTab.map fun z => Value.int .u8 z).toArray
  let h2 := put h1 3 ((List.range 16).flatMap fun i => [Value.int .u8 (Lib.accLo i), Value.int .u8 (Lib.accHi i)]).toArray
  let h3 := put h2 0 (Lib.pow10Tab.map fun z => Value.int .u64 z).toArray
  let h4 := put h3 4 (numsOf Rows.laid_math_bits_deBruijn32tab)
  let h5 := put h4 5 (numsOf Rows.laid_math_bits_deBruijn64tab)
  { w0 with heap := h5 }
theorem laid_met (os : Os) (args : Array Value) : laidMet Tryd.prog listed ((laidWorld os).forCall (fun _ _ => 0) ⟨#[], args, []⟩).memory := by
  exact (LaidIn.of_run (l := listed) [2, 3, 0, 4, 5] 8 (by kernel_rfl) (by kernel_rfl) (by kernel_rfl) (by kernel_rfl)).met

/-! ### arguments -/
def evKinds : List CK := [.int .i64, .int .i64, .int .i64, .str]
theorem ev_flat : flat Tryd.prog 3 23 = some evKinds := by kernel_rfl
def Ev.cells (e : Ev) : List Value := [.int .i64 e.k, .int .i64 e.c, .int .i64 e.n, .string e.d]
theorem fits_ev {cs : List Value} (h : Fits evKinds cs) : ∃ e : Ev, True ∧ cs = e.cells := by
  obtain ⟨hl, hf⟩ := h
  match cs, hl with
  | [v0, v1, v2, v3], _ =>
    obtain ⟨n0, rfl, _⟩ := hf 0 _ _ rfl rfl
    obtain ⟨n1, rfl, _⟩ := hf 1 _ _ rfl rfl
    obtain ⟨n2, rfl, _⟩ := hf 2 _ _ rfl rfl
    obtain ⟨s3, rfl, _⟩ := hf 3 _ _ rfl rfl
    exact ⟨⟨n0, n1, n2, s3⟩, trivial, rfl⟩
set_option maxRecDepth 100000 in
theorem open_ev {H : Type} {enc : TypeId × Value → H} {w : World} {r : Reach} {b0 : Nat} {fuel : Nat} {v : Value} {x : DataW H × List MemPlace} (hv : Value.okWide Tryd.prog w r b0 23 v)
    (h : DataW.trod enc Tryd.prog w 0 (fun _ => true) true fuel 23 (Value.cells v).toList = some x) : ∃ e : Ev, v = .agg #[.int .i64 e.k, .int .i64 e.c, .int .i64 e.n, .string e.d] := by
  obtain ⟨cs, rfl, _⟩ := Go.WideShapes.okWide_struct Tryd.underlying23 hv
  obtain ⟨m, _, hm⟩ := fits_ev (flat_fits 3 ev_flat h)
  refine ⟨m, ?_⟩
  have : cs = m.cells.toArray := by
    apply Array.ext'
    simpa [Value.cells] using hm
  rw [this]
  rfl
end Go.Proofs.YtnppgidbfmbdgaaDoor
