/- Update; the law's own little run. -/
import Derived.Test.YtjfmbjgniajagaaGreatDoorItemsUpd
namespace Go.Proofs.YtjfmbjgniajagaaGreatDoor
open Go.RowKit

theorem updp_any (a : Option Addr) (L : List Itm) (cap : Nat) (am : Option Addr) (M : List Met) (capm : Nat) (tb tm : Nat) (l : ATab) (ow : ByteArray) (w : World) (h : ItemsAt w a L) (hM : MetsAt w am M) (hT : Tab w tb tm l) (hb : L.length * 72 ≤ 140737488351232) (hE : Errs w) :
    Calls Tryz.prog 58 #[.slice a L.length cap, .slice am M.length capm, .pointer (some ⟨tb, 0, none⟩), .string ow] w (Born2Post (updGo (aFind l ow) M L) w) := by
  have B := update_any a L cap am M capm tb tm l ow w h hM hT hb
  generalize updGo (aFind l ow) M L = r at B ⊢
  unfold UpdPost at B
  replace B := Lib.hid B
  replace hE := Lib.hid hE
  clear h hM hT
  go_enter Tryz.func58, Tryz.ntmps58
  go_wp2_with fail
  refine B.out.mono ?_
  rintro e w2 ⟨a2, cap2, er, rfl, hR, hO, hor⟩
  have hE2 := hE.out.nil hO
  replace hR := Lib.hid hR
  replace hO := Lib.hid hO
  rcases hor with ⟨h1, rfl⟩ | ⟨q, rfl, hq⟩
  · replace h1 := Lib.hid h1
    go_wp2_with fail
    refine (code_nil _).mono ?_
    rintro e w3 ⟨rfl, hO2⟩
    replace hO2 := Lib.hid hO2
    go_wp2_with fail
    go_ret2
    exact ⟨a2, cap2, by rw [h1.out]; rfl, hR.out.nil' hO2.out, hO.out.trans hO2.out⟩
  · have C := code_hit q r.1 w2 hE2 hq
    replace C := Lib.hid C
    clear hE2 hq
    go_wp2_with fail
    refine C.out.mono ?_
    rintro e w3 ⟨rfl, hO2⟩
    replace hO2 := Lib.hid hO2
    go_wp2_with fail
    go_ret2
    exact ⟨a2, cap2, rfl, hR.out.nil' hO2.out, hO.out.trans hO2.out⟩

/-- A block that holds rows one behind the other. -/
theorem RowsAt.of_block {α : Type} {enc : α → List Value} {k : Nat} {good : α → Prop} {w : World} {b : Nat} {cs : Array Value} {T : TypeId} {L : List α} (hk : ∀ x, (enc x).length = k) (h : w.heap[b]? = some (.cells cs T (0, 0))) (hc : cs.toList = rowOf enc L) (hl : L.length ≤ 140737488351232) (hg : ∀ x ∈ L, good x) : RowsAt enc k good w (some ⟨b, 0, none⟩) L := by
  refine ⟨hl, fun _ => ⟨b, 0, rfl, lt_of_heap h, fun i x hi => ⟨hg x (List.mem_of_getElem? hi), fun j v hj => ?_⟩⟩⟩
  have hjk : j < k := by rw [← hk x]; exact (List.getElem?_eq_some_iff.1 hj).1
  refine blk_cell h ?_
  rw [Nat.zero_add, ← Array.getElem?_toList, hc, rowOf_get hk L i j x hi hjk, hj]

def mA : Met := ⟨⟨#[97]⟩, false, 0, 0, 0, false, false, false, (none, 0, 0), (none, 0, 0), 0, 0, ⟨#[]⟩, (none, 0, 0), (none, 0, 0)⟩
def mB : Met := ⟨⟨#[98]⟩, false, 0, 0, 0, false, false, false, (none, 0, 0), (none, 0, 0), 0, 0, ⟨#[]⟩, (none, 0, 0), (none, 0, 0)⟩
def mB5 : Met := ⟨⟨#[98]⟩, false, 0, 0, 0, false, false, false, (none, 0, 0), (none, 0, 0), 1, 5, ⟨#[]⟩, (none, 0, 0), (none, 0, 0)⟩
def iA : Itm := ⟨⟨#[97]⟩, false, 0, 0, false, 0, 0, ⟨#[]⟩⟩
def iB : Itm := ⟨⟨#[98]⟩, false, 0, 0, false, 0, 0, ⟨#[]⟩⟩
def iB5 : Itm := ⟨⟨#[98]⟩, false, 0, 0, false, 1, 5, ⟨#[]⟩⟩
end Go.Proofs.YtjfmbjgniajagaaGreatDoor
