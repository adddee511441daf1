/- The library's variables that chapter 37's rows list; a message that came in. -/
import Derived.Test.YtecociaolohfmaaGreatDoorSpOf
import Derived.Test.YtecociaolohfmaaGreatDoorStrTab
import Derived.Test.YtecociaolohfmaaGreatDoorFlat
import Derived.Test.YtecociaolohfmaaGreatDoorCards
import Derived.Test.YtecociaolohfmaaGreatDoorTie
import Derived.LaidHandle
import Derived.LaidLaws
import Derived.PinnedBridge
import Derived.Stop.Joined
import Derived.Lib.LaidIn
import Derived.Lib.LaidU8T
import Derived.Deep.DeepHandedRow
import Derived.Deep.DeepWitnessRowRef
namespace Go.Proofs.YtecociaolohfmaaGreatDoor
open Go.RowKit Go.Shelf Go.Lib Go.WideShapes
theorem accept_eq : (Rows.laid_unicode_utf8_acceptRanges : DataW Unit) = Lib.acceptData := by kernel_rfl
theorem first_eq : Rows.laid_unicode_utf8_first = Lib.firstData := Pinned.utf8First_eq
def wordsL : List ByteArray := (List.range 10).map fun k : Nat => spWord (k : Int)
theorem words_eq : (Rows.laid_crier_space_words : DataW Unit) = strData wordsL := by kernel_rfl
def listed : List (String × DataW Unit) := [("unicode/utf8.acceptRanges", Rows.laid_unicode_utf8_acceptRanges), ("errors.errorType", Rows.laid_errors_errorType), ("crier/space.words", Rows.laid_crier_space_words), ("unicode/utf8.first", Rows.laid_unicode_utf8_first)]
def plainL : List (String × DataW Unit) := [("unicode/utf8.acceptRanges", Lib.acceptData), ("crier/space.words", strData wordsL), ("unicode/utf8.first", Lib.firstData)]
theorem plainL_eq : (listed.filter fun x => x.2.handleName?.isNone) = plainL := by
  have e : (listed.filter fun x => x.2.handleName?.isNone) = [("unicode/utf8.acceptRanges", Rows.laid_unicode_utf8_acceptRanges), ("crier/space.words", Rows.laid_crier_space_words), ("unicode/utf8.first", Rows.laid_unicode_utf8_first)] := by rfl
  rw [e, accept_eq, first_eq, words_eq]
  rfl
/-- What the walks lean on. -/
def Tabs37 (w : World) : Prop := Tabs w ∧ WordsAt w ∧ MaxC w
theorem Tabs37.own {w w' : World} (h : Tabs37 w) (ho : Own [] w w') : Tabs37 w' := ⟨h.1.own (S := []) ho (by simp), h.2.1.own ho, h.2.2.own ho⟩
theorem plain_of {W : World} (h : laidMetH Tryz.prog listed W) : laidMet Tryz.prog plainL W := by
  have h' : laidMet Tryz.prog (listed.filter fun x => x.2.handleName?.isNone) W ∧ handlesMet Tryz.prog (listed.filter fun x => x.2.handleName?.isSome) W := h
  rw [plainL_eq] at h'
  exact h'.1
theorem tabs_of {W : World} (h : laidMetH Tryz.prog listed W) (hs : W.ShapedOpen Tryz.prog) : Tabs37 W := by
  have h1 := plain_of h
  refine ⟨?_, ?_, Tryz.laysContainsM.s1_3 W hs⟩
  · exact utf8Tabs_of_readsT (U8Types.of196 Tryz.laysValid) ⟨by kernel_rfl, by kernel_rfl, by kernel_rfl, by kernel_rfl, by kernel_rfl, by kernel_rfl, by kernel_rfl⟩ (Lib.laidMet.reads h1 (.tail _ (.tail _ (.head _)))) (Lib.laidMet.reads h1 (.head _))
  · obtain ⟨g', t', cs, fuel, p, hg', ht', hvar, hd⟩ := Lib.laidMet.reads h1 (n := "crier/space.words") (d := strData wordsL) (.tail _ (.head _))
    obtain rfl := Option.some.inj ((show Tryz.prog.globalNamed "crier/space.words" = some 0 by kernel_rfl).symm.trans hg')
    obtain rfl := Option.some.inj ((show (Tryz.prog.globals[0]?).map (·.type) = some 172 by kernel_rfl).symm.trans ht')
    have hcs := cells_of_strs Tryz.underlying172 Tryz.underlying9 (by kernel_rfl) (by kernel_rfl) hd
    intro k hk
    have hc := World.var?_cell (show Tryz.prog.globalNamed "crier/space.words" = some 0 by kernel_rfl) hvar k
    rw [hc]
    have : cs[k]? = (cs.toList)[k]? := by simp
    rw [this, hcs]
    unfold wordsL
    simp [hk]
noncomputable def laidWorld (os : Os) : World :=
  let w0 := World.holding Tryz.prog os ⟨#[], #[], []⟩
  let put (h : Array Obj) (g : Nat) (cs : Array Value) : Array Obj := h.modify g fun
    | .cells _ t frozen => .cells cs t frozen
    | o => o
  let h1 := put w0.heap 2 (Lib.firstTab.map fun z => Value.int .u8 z).toArray
  let h2 := put h1 3 ((List.range 16).flatMap fun i => [Value.int .u8 (Lib.accLo i), Value.int .u8 (Lib.accHi i)]).toArray
  let h3 := put h2 0 (wordsL.map Value.string).toArray
  let h4 := put h3 4 #[.iface 377 (.agg #[typeHandle Tryz.prog 224])]
  { w0 with heap := h4 }
theorem laid_met (os : Os) (args : Array Value) : laidMetH Tryz.prog listed ((laidWorld os).forCall (fun _ _ => 0) ⟨#[], args, []⟩).memory := by
  refine laidMetH_of_parts ?_ (by kernel_rfl)
  rw [plainL_eq]
  unfold plainL
  exact (LaidIn.of_run (l := [("unicode/utf8.acceptRanges", Lib.acceptData), ("crier/space.words", strData wordsL), ("unicode/utf8.first", Lib.firstData)]) [2, 3, 0] 8 (by kernel_rfl) (by kernel_rfl) (by kernel_rfl) (by kernel_rfl)).met

/-! ### arguments -/
structure SMsg where
  topic : ByteArray
  text : ByteArray
  qos : Int
  ret : Bool
def SMsg.cells (m : SMsg) : List Value := [.string m.topic, .string m.text, .int .i64 m.qos, .bool m.ret]
def SMsg.val (m : SMsg) : Value := .agg #[.string m.topic, .string m.text, .int .i64 m.qos, .bool m.ret]
def smsgKinds : List CK := [.str, .str, .int .i64, .bool]
theorem smsg_flat : flat Tryz.prog 3 23 = some smsgKinds := by kernel_rfl
set_option maxRecDepth 100000 in
theorem open_smsg {H : Type} {enc : TypeId × Value → H} {w : World} {r : Reach} {b0 : Nat} {fuel : Nat} {v : Value} {x : DataW H × List MemPlace} (hv : Value.okWide Tryz.prog w r b0 23 v)
    (h : DataW.trod enc Tryz.prog w 0 (fun _ => true) true fuel 23 (Value.cells v).toList = some x) : ∃ m : SMsg, v = m.val := by
  obtain ⟨cs, rfl, _⟩ := okWide_struct Tryz.underlying23 hv
  obtain ⟨hl, hf⟩ := flat_fits 3 smsg_flat h
  have hsz : (Value.cells (.agg cs)).toList = cs.toList := rfl
  rw [hsz] at hl hf
  match hcs : cs.toList, hl with
  | [v0, v1, v2, v3], _ =>
    rw [hcs] at hf
    obtain ⟨s0, rfl, _⟩ := hf 0 _ _ rfl rfl
    obtain ⟨s1, rfl, _⟩ := hf 1 _ _ rfl rfl
    obtain ⟨n2, rfl, _⟩ := hf 2 _ _ rfl rfl
    obtain ⟨b3, rfl⟩ := hf 3 _ _ rfl rfl
    refine ⟨⟨s0, s1, n2, b3⟩, ?_⟩
    have : cs = #[.string s0, .string s1, .int .i64 n2, .bool b3] := Array.ext' hcs
    rw [this]
    rfl
end Go.Proofs.YtecociaolohfmaaGreatDoor
