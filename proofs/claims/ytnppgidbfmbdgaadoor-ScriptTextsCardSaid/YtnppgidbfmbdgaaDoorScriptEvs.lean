/- Scripts (chapter 40): rows of events. -/
import Derived.Test.YtnppgidbfmbdgaaDoorScriptLaid
import Derived.Test.YtnppgidbfmbdgaaDoorScriptBack
import Derived.Deep.QuietTactic
import Derived.BigQuiet
import Derived.Deep.Slices
set_option linter.unusedSimpArgs false
set_option linter.unusedVariables false
namespace Go.Proofs.YtnppgidbfmbdgaaDoor
open Go.RowKit

theorem evInfo : (Tryd.prog.info? 23).map (fun i => (i.zero, i.size, i.bytes)) = some (some (.agg #[.int .i64 0, .int .i64 0, .int .i64 0, .string ⟨#[]⟩]), 4, 40) := by kernel_rfl
theorem evElem : Elem Tryd.prog 36 23 Ev.cells 4 40 where
  ut := Tryd.underlying36
  info := by obtain ⟨i, h1, h2, h3, h4⟩ := info_parts evInfo; exact ⟨i, _, h1, h2, h3, h4, rfl⟩
  pos := by omega
  len := fun _ => rfl
  one x u hu := by
    simp only [Ev.cells, List.mem_cons, List.not_mem_nil, or_false] at hu
    rcases hu with rfl | rfl | rfl | rfl <;> rfl
theorem ev_size : Tryd.prog.cellsOf 23 = 4 := by kernel_rfl
theorem ev_bytes : Tryd.prog.bytesOf 23 = 40 := by kernel_rfl
instance : Inhabited Ev := ⟨Ev.zero⟩
/-- A slice of events that came in. -/
theorem open_evs {H : Type} {enc : TypeId × Value → H} {w : World} {fuel : Nat} {a0 : Option Addr} {len0 cap0 : Nat} {x : DataW H × List MemPlace} (h : DataW.trod enc Tryd.prog w 0 (fun _ => true) true fuel 36 (Value.cells (.slice a0 len0 cap0)).toList = some x)
    {ts : List TypeId} {ds : List (DataW H)} (hsz : (DataW.weightsEach Tryd.prog ts ds).all (· ≤ reachBytes) = true) {j : Nat} (htj : ts[j]? = some 36) (hd : ds[j]? = some x.1) :
    ∃ L : List Ev, len0 = L.length ∧ L.length ≤ 140737488351232 ∧ (0 < L.length → ∃ b o, a0 = some ⟨b, o, none⟩ ∧ ∀ i x j u, L[i]? = some x → (Ev.cells x)[j]? = some u → w.cell? ⟨b, o + (i * 4 + j), none⟩ = some u) := by
  rcases open_flat Tryd.underlying36 3 4 ev_flat ev_size (by omega) h with ⟨hcs, _⟩ | ⟨a, len, cap, m, elems, rest, ps, C, hcs, rfl, hel, hm, hlm, hx⟩
  · simp [Value.cells] at hcs
    obtain ⟨rfl, rfl, rfl⟩ := hcs
    exact ⟨[], rfl, by simp, fun h => by simp at h⟩
  · simp [Value.cells] at hcs
    obtain ⟨rfl, rfl, rfl⟩ := hcs
    have hbb := sized_slice hsz htj hd Tryd.underlying36
    rw [ev_bytes] at hbb
    simp only [reachBytes] at hbb
    by_cases hl : 0 < len0
    · obtain ⟨b, o, rfl, hbl, hc⟩ := hx hl
      obtain ⟨its, hits⟩ := Deep.choose_lt (α := Ev) (n := len0) (p := fun i x => True ∧ C i = Ev.cells x) (fun i hi => fits_ev (hc i hi).1)
      have hle : len0 * 40 ≤ 140737488351232 := by
        have : len0 * 40 ≤ m * 40 := Nat.mul_le_mul_right _ hlm
        rw [← hm] at this
        omega
      refine ⟨(List.range len0).map its, by simp, by simp; omega, fun _ => ⟨b, o, rfl, fun i x j v hi hv => ?_⟩⟩
      have hil : i < len0 := by simpa using (List.getElem?_eq_some_iff.1 hi).1
      obtain rfl : its i = x := by simpa [hil] using hi
      have := (hc i hil).2 j v (by rw [(hits i hil).2]; exact hv)
      first | exact this | (rw [← Nat.add_assoc]; exact this) | simpa [Nat.add_assoc] using this
    · obtain rfl : len0 = 0 := by omega
      exact ⟨[], rfl, by simp, fun h => by simp at h⟩
/-- A row of events, wherever it lies. -/
def EvsAt (w : World) (a : Option Addr) (L : List Ev) : Prop := L.length ≤ 140737488351232 ∧ (0 < L.length → ∃ b o, a = some ⟨b, o, none⟩ ∧ ∀ i x j u, L[i]? = some x → (Ev.cells x)[j]? = some u → w.cell? ⟨b, o + (i * 4 + j), none⟩ = some u)
theorem EvsAt.own {w w' : World} {a : Option Addr} {L : List Ev} (h : EvsAt w a L) (ho : Own [] w w') : EvsAt w' a L :=
  ⟨h.1, fun hl => let ⟨b, o, h1, h2⟩ := h.2 hl; ⟨b, o, h1, fun i x j u hx hu => (ho.cell (p := ⟨b, o + (i * 4 + j), none⟩) (block_lt_of_cell (h2 i x j u hx hu)) (by simp)).trans (h2 i x j u hx hu)⟩⟩
theorem EvsAt.get {w : World} {a : Option Addr} {L : List Ev} (h : EvsAt w a L) {i : Nat} {x : Ev} (hx : L[i]? = some x) :
    ∃ b o, a = some ⟨b, o, none⟩ ∧ w.cell? ⟨b, o + i * 4, none⟩ = some (.int .i64 x.k) ∧ w.cell? ⟨b, o + i * 4 + 1, none⟩ = some (.int .i64 x.c) ∧ w.cell? ⟨b, o + i * 4 + 2, none⟩ = some (.int .i64 x.n) ∧ w.cell? ⟨b, o + i * 4 + 3, none⟩ = some (.string x.d) := by
  obtain ⟨b, o, h1, h2⟩ := h.2 (by have := (List.getElem?_eq_some_iff.1 hx).1; omega)
  exact ⟨b, o, h1, h2 i x 0 _ hx rfl, h2 i x 1 _ hx rfl, h2 i x 2 _ hx rfl, h2 i x 3 _ hx rfl⟩
theorem Sl.evs {B : Nat} {w : World} {a : Option Addr} {n c : Nat} {L : List Ev} (h : Sl 23 Ev.cells 4 B w (.slice a n c) L) (hl : L.length ≤ 140737488351232) : EvsAt w a L :=
  ⟨hl, fun h0 => (h.reads (fun _ => rfl)).at_ (k := 4) (fun _ => rfl) h0⟩
/-- .. as the row's frame wants it. -/
theorem open_evs2 {H : Type} {enc : TypeId × Value → H} {w : World} {fuel : Nat} {a0 : Option Addr} {len0 cap0 : Nat} {x : DataW H × List MemPlace} (h : DataW.trod enc Tryd.prog w 0 (fun _ => true) true fuel 36 (Value.cells (.slice a0 len0 cap0)).toList = some x)
    {ts : List TypeId} {ds : List (DataW H)} (hsz : (DataW.weightsEach Tryd.prog ts ds).all (· ≤ reachBytes) = true) {j : Nat} (htj : ts[j]? = some 36) (hd : ds[j]? = some x.1) :
    ∃ L : List Ev, len0 = L.length ∧ L.length ≤ 140737488351232 ∧ EvsAt w a0 L :=
  let ⟨L, h1, h2, h3⟩ := open_evs h hsz htj hd
  ⟨L, h1, h2, h2, h3⟩
set_option maxRecDepth 100000 in
set_option maxHeartbeats 4000000 in
theorem same_any (a b : Option Addr) (ca cb : Nat) (L : List Ev) (w : World) (hA : EvsAt w a L) (hB : EvsAt w b L) :
    Calls Tryd.prog 17 #[.slice a L.length ca, .slice b L.length cb] w fun e w' => e = .returned (.bool true) ∧ Own [] w w' := by
  have hl := hA.1
  replace hA := Lib.hid hA
  replace hB := Lib.hid hB
  go_enter Tryd.func17, Tryd.ntmps17
  go_wp2_with fail
  go_loopg [5] L.length (fun g s5 wr => ∃ i : Nat, s5 = .int .i64 i ∧ i + g = L.length ∧ Aside (Own [] w wr))
  case atStart => exact ⟨0, rfl, by simp, Own.refl _ _⟩
  case round =>
    obtain ⟨i, rfl, hg, hO⟩ := hrel
    have hw1 : IntKind.i64.wrap ((i : Int) + 1) = ((i + 1 : Nat) : Int) := by rw [IntKind.wrap_i64]; omega
    by_cases hlt : i < L.length
    · have h1 : (i : Int) < L.length := by omega
      have h0 : (0 : Int) ≤ i := by omega
      obtain ⟨x, hx⟩ : ∃ x, L[i]? = some x := ⟨_, List.getElem?_eq_getElem hlt⟩
      obtain ⟨b1, o1, rfl, p0, p1, p2, p3⟩ := (hA.out.own hO.out).get hx
      obtain ⟨b2, o2, rfl, q0, q1, q2, q3⟩ := (hB.out.own hO.out).get hx
      replace hx := Lib.hid hx
      replace hg := Lib.hid hg
      replace hO := Lib.hid hO.out
      go_wp2_with fail
      go_quiet (fail)
      go_wp2_with fail
      go_roundg (L.length - (i + 1))
      case rel => exact ⟨i + 1, by go_num, by omega, hO.out.drewN nq⟩
      case measure => have := hg.out; omega
    · have h1 : ¬ (i : Int) < L.length := by omega
      replace hO := Lib.hid hO.out
      clear hg
      go_wp2_with fail
      go_ret
      exact ⟨rfl, hO.out⟩
/-! ### what events come to -/
def evPrint (e : Ev) : ByteArray × Int := scPrint e.k e.c e.n e.d
def firstErr : List Ev → Int
  | [] => 0
  | e :: r => if (evPrint e).2 ≠ 0 then (evPrint e).2 else firstErr r
def joinP : List Ev → ByteArray → Option ByteArray
  | [], acc => some acc
  | e :: r, acc => if 32768 < (acc ++ (evPrint e).1 ++ ⟨#[10]⟩).size then none else joinP r (acc ++ (evPrint e).1 ++ ⟨#[10]⟩)
/-- What a row of events comes to as a text. -/
def scPrintAll (l : List Ev) : ByteArray × Int := if 512 < l.length then (⟨#[]⟩, 6) else if firstErr l ≠ 0 then (⟨#[]⟩, firstErr l) else match joinP l ⟨#[]⟩ with
  | some s => (s, 0)
  | none => (⟨#[]⟩, 3)
theorem evPrint_size (e : Ev) : (evPrint e).1.size ≤ 32768 := by
  have h0 : (⟨#[]⟩ : ByteArray).size = 0 := rfl
  unfold evPrint scPrint
  split
  · show (⟨#[]⟩ : ByteArray).size ≤ _; omega
  split
  · show (⟨#[]⟩ : ByteArray).size ≤ _; omega
  split
  · show (⟨#[]⟩ : ByteArray).size ≤ _; omega
  · rename_i h
    show (scLine _ _ _).size ≤ _
    have : ¬ 32768 < (scLine e.k (scM e.k e.c e.n) e.d).size := fun h' => h (.inr h')
    omega
theorem drop_get {α : Type} {L : List α} {i : Nat} {x : α} (h : L[i]? = some x) : L.drop i = x :: L.drop (i + 1) := by
  obtain ⟨hl, rfl⟩ := List.getElem?_eq_some_iff.1 h
  exact List.drop_eq_getElem_cons hl
theorem firstErr_at {L : List Ev} {i : Nat} {x : Ev} (h : L[i]? = some x) : firstErr (L.drop i) = if (evPrint x).2 ≠ 0 then (evPrint x).2 else firstErr (L.drop (i + 1)) := by
  rw [drop_get h]; rfl
theorem joinP_at {L : List Ev} {i : Nat} {x : Ev} (h : L[i]? = some x) (acc : ByteArray) : joinP (L.drop i) acc = if 32768 < acc.size + (evPrint x).1.size + 1 then none else joinP (L.drop (i + 1)) (acc ++ (evPrint x).1 ++ ⟨#[10]⟩) := by
  rw [drop_get h]
  have : (acc ++ (evPrint x).1 ++ ⟨#[10]⟩).size = acc.size + (evPrint x).1.size + 1 := by rw [ByteArray.size_append, ByteArray.size_append]; rfl
  show (if 32768 < (acc ++ (evPrint x).1 ++ ⟨#[10]⟩).size then none else _) = _
  rw [this]
end Go.Proofs.YtnppgidbfmbdgaaDoor
