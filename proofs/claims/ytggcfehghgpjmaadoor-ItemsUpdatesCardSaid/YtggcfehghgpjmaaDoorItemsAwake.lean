/- Update; the law's own little run. -/
import Derived.Test.YtggcfehghgpjmaaDoorItemsUpd
namespace Go.Proofs.YtggcfehghgpjmaaDoor
open Go.RowKit

theorem updp_any (a : Option Addr) (L : List Itm) (cap : Nat) (am : Option Addr) (M : List Met) (capm : Nat) (tb tm : Nat) (l : ATab) (ow : ByteArray) (w : World) (h : ItemsAt w a L) (hM : MetsAt w am M) (hT : Tab w tb tm l) (hb : L.length * 72 ≤ 140737488351232) (hE : Errs w) :
    Calls Tryd.prog 15 #[.slice a L.length cap, .slice am M.length capm, .pointer (some ⟨tb, 0, none⟩), .string ow] w (Born2Post (updGo (aFind l ow) M L) w) := by
  have B := update_any a L cap am M capm tb tm l ow w h hM hT hb
  generalize updGo (aFind l ow) M L = r at B ⊢
  unfold UpdPost at B
  replace B := Lib.hid B
  replace hE := Lib.hid hE
  clear h hM hT
  go_enter Tryd.func15, Tryd.ntmps15
  go_wp2_with fail
  refine B.out.mono ?_
  rintro e w2 ⟨a2, cap2, er, rfl, hR, hO, hor⟩
  have hE2 := hE.out.nil hO
  replace hR := Lib.hid hR
  replace hO := Lib.hid hO
  rcases hor with ⟨h1, rfl⟩ | ⟨q, rfl, hq⟩
  · replace h1 := Lib.hid h1
    go_wp2_with fail
    refine (code_nil _).mono ?_
    rintro e w3 ⟨rfl, hO2⟩
    replace hO2 := Lib.hid hO2
    go_wp2_with fail
    go_ret2
    exact ⟨a2, cap2, by rw [h1.out]; rfl, hR.out.nil' hO2.out, hO.out.trans hO2.out⟩
  · have C := code_hit q r.1 w2 hE2 hq
    replace C := Lib.hid C
    clear hE2 hq
    go_wp2_with fail
    refine C.out.mono ?_
    rintro e w3 ⟨rfl, hO2⟩
    replace hO2 := Lib.hid hO2
    go_wp2_with fail
    go_ret2
    exact ⟨a2, cap2, rfl, hR.out.nil' hO2.out, hO.out.trans hO2.out⟩

/-- A block that holds rows one behind the other. -/
theorem RowsAt.of_block {α : Type} {enc : α → List Value} {k : Nat} {good : α → Prop} {w : World} {b : Nat} {cs : Array Value} {T : TypeId} {L : List α} (hk : ∀ x, (enc x).length = k) (h : w.heap[b]? = some (.cells cs T (0, 0))) (hc : cs.toList = rowOf enc L) (hl : L.length ≤ 140737488351232) (hg : ∀ x ∈ L, good x) : RowsAt enc k good w (some ⟨b, 0, none⟩) L := by
  refine ⟨hl, fun _ => ⟨b, 0, rfl, lt_of_heap h, fun i x hi => ⟨hg x (List.mem_of_getElem? hi), fun j v hj => ?_⟩⟩⟩
  have hjk : j < k := by rw [← hk x]; exact (List.getElem?_eq_some_iff.1 hj).1
  refine blk_cell h ?_
  rw [Nat.zero_add, ← Array.getElem?_toList, hc, rowOf_get hk L i j x hi hjk, hj]

def mA : Met := ⟨⟨#[97]⟩, false, 0, 0, 0, false, false, false, (none, 0, 0), (none, 0, 0), 0, 0, ⟨#[]⟩, (none, 0, 0), (none, 0, 0)⟩
def mB : Met := ⟨⟨#[98]⟩, false, 0, 0, 0, false, false, false, (none, 0, 0), (none, 0, 0), 0, 0, ⟨#[]⟩, (none, 0, 0), (none, 0, 0)⟩
def mB5 : Met := ⟨⟨#[98]⟩, false, 0, 0, 0, false, false, false, (none, 0, 0), (none, 0, 0), 1, 5, ⟨#[]⟩, (none, 0, 0), (none, 0, 0)⟩
def iA : Itm := ⟨⟨#[97]⟩, false, 0, 0, false, 0, 0, ⟨#[]⟩⟩
def iB : Itm := ⟨⟨#[98]⟩, false, 0, 0, false, 0, 0, ⟨#[]⟩⟩
def iB5 : Itm := ⟨⟨#[98]⟩, false, 0, 0, false, 1, 5, ⟨#[]⟩⟩
set_option maxHeartbeats 2000000 in
theorem awake_any (w : World) (hE : Errs w) : Calls Tryd.prog 14 #[] w fun e w' => e = .returned (.bool true) ∧ Own [] w w' := by
  have wA : mA.wf := by unfold mA Met.wf; simp
  have wB : mB.wf := by unfold mB Met.wf; simp
  have wB5 : mB5.wf := by unfold mB5 Met.wf; simp
  have e1 : bornL [mA, mB] = (1, [iA, iB]) := by kernel_rfl
  have e2 : updGo (aFind [] ⟨#[]⟩) [mB5] [iA, iB] = (1, [iA, iB5]) := by kernel_rfl
  have e3 : itFind [iA, iB5] ⟨#[98]⟩ = (iB5, true) := by kernel_rfl
  have hO1 := (Own.refl [] w).alloc (.cells #[.string ⟨#[97]⟩, .bool false, .int .u64 0, .int .u64 0, .int .u32 0, .bool false, .bool false, .bool false, .slice none 0 0, .slice none 0 0, .int .i64 0, .int .u64 0, .string ⟨#[]⟩, .slice none 0 0, .slice none 0 0, .string ⟨#[98]⟩, .bool false, .int .u64 0, .int .u64 0, .int .u32 0, .bool false, .bool false, .bool false, .slice none 0 0, .slice none 0 0, .int .i64 0, .int .u64 0, .string ⟨#[]⟩, .slice none 0 0, .slice none 0 0] 32)
  have hM1 : MetsAt _ _ [mA, mB] := RowsAt.of_block Met.cells_len (heap_alloc_new w (.cells #[.string ⟨#[97]⟩, .bool false, .int .u64 0, .int .u64 0, .int .u32 0, .bool false, .bool false, .bool false, .slice none 0 0, .slice none 0 0, .int .i64 0, .int .u64 0, .string ⟨#[]⟩, .slice none 0 0, .slice none 0 0, .string ⟨#[98]⟩, .bool false, .int .u64 0, .int .u64 0, .int .u32 0, .bool false, .bool false, .bool false, .slice none 0 0, .slice none 0 0, .int .i64 0, .int .u64 0, .string ⟨#[]⟩, .slice none 0 0, .slice none 0 0] 32)) (by rfl) (by simp) (by intro x hx; simp at hx; rcases hx with rfl | rfl; exact wA; exact wB)
  have B := bornp_any _ [mA, mB] 2 _ hM1 (hE.nil hO1)
  rw [e1] at B
  unfold Born2Post at B
  replace B := Lib.hid B
  replace hO1 := Lib.hid hO1
  replace hE := Lib.hid hE
  replace e2 := Lib.hid e2
  replace e3 := Lib.hid e3
  clear hM1 e1
  go_enter Tryd.func14, Tryd.ntmps14
  go_wp2_with fail
  refine B.out.mono ?_
  rintro e w2 ⟨a2, cap2, rfl, hR, hO2⟩
  have hO3 := hO1.out.trans hO2
  replace hR := Lib.hid hR
  replace hO3 := Lib.hid hO3
  clear hO2 B
  go_wp2_with fail
  have hA1 := (Own.refl [] w2).alloc (.cells #[.string ⟨#[98]⟩, .bool false, .int .u64 0, .int .u64 0, .int .u32 0, .bool false, .bool false, .bool false, .slice none 0 0, .slice none 0 0, .int .i64 1, .int .u64 5, .string ⟨#[]⟩, .slice none 0 0, .slice none 0 0] 32)
  have hM2 : MetsAt _ _ [mB5] := RowsAt.of_block Met.cells_len (heap_alloc_new w2 (.cells #[.string ⟨#[98]⟩, .bool false, .int .u64 0, .int .u64 0, .int .u32 0, .bool false, .bool false, .bool false, .slice none 0 0, .slice none 0 0, .int .i64 1, .int .u64 5, .string ⟨#[]⟩, .slice none 0 0, .slice none 0 0] 32)) (by rfl) (by simp) (by intro x hx; simp at hx; subst hx; exact wB5)
  replace hA1 := Lib.hid hA1
  replace hM2 := Lib.hid hM2
  refine (new_any _).mono ?_
  rintro e w3 ⟨tb, tm, rfl, hT, _, _, hO4⟩
  have hO5 := hA1.out.trans hO4
  have U := updp_any a2 [iA, iB] cap2 _ [mB5] 1 tb tm [] ⟨#[]⟩ w3 ((hR.out.nil' hO5).at_ (by simp)) (hM2.out.nil' hO4) hT (by simp) (hE.out.nil (hO3.out.trans hO5))
  rw [e2.out] at U
  unfold Born2Post at U
  replace U := Lib.hid U
  replace hO6 := Lib.hid (hO3.out.trans hO5)
  clear hO5 hO4 hT hM2 hA1
  go_wp2_with fail
  refine U.out.mono ?_
  rintro e w4 ⟨a4, cap4, rfl, hR4, hO7⟩
  have F := itFind_any a4 [iA, iB5] cap4 ⟨#[98]⟩ w4 (hR4.at_ (by simp))
  rw [e3.out] at F
  unfold FindPost iB5 Itm.val Itm.cells at F
  replace F := Lib.hid F
  replace hO8 := Lib.hid (hO6.out.trans hO7)
  clear U hR4 hO7 hR
  go_wp2_with fail
  refine F.out.mono ?_
  rintro e w5 ⟨rfl, hO9⟩
  replace hO9 := Lib.hid (hO8.out.trans hO9)
  go_wp2_with fail
  go_ret
  exact ⟨rfl, hO9.out.alloc _⟩
end Go.Proofs.YtggcfehghgpjmaaDoor
