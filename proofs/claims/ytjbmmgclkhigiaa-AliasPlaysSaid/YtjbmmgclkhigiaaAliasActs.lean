/- Rows of acts (crierlaw30.Act) that came in; (*alias.Table).Clear. -/
import Derived.Test.YtjbmmgclkhigiaaUR
import Derived.Test.YtjbmmgclkhigiaaItemsMem
import Derived.SizedLaws
set_option linter.unusedSimpArgs false
set_option linter.unusedVariables false
namespace Go.Proofs.Ytjbmmgclkhigiaa
open Go.RowKit Go.ChangeShapes Go.WideShapes

/-- What a table is told. -/
structure PAct where
  k : Int
  ow : ByteArray
  a : Option Addr
  L : List Itm
  c : Nat
def PAct.cells (x : PAct) : List Value := [.int .i64 x.k, .string x.ow, .slice x.a x.L.length x.c]
/-- A row of acts: what it holds. -/
def PActs (w : World) (a : Option Addr) (len : Nat) (ms : Nat → PAct) : Prop :=
  len ≤ maxLen ∧ (0 < len → ∃ b o, a = some ⟨b, o, none⟩ ∧ b < w.heap.size ∧ ∀ i, i < len → ItemsAt w (ms i).a (ms i).L ∧ ∀ j v, (ms i).cells[j]? = some v → w.cell? ⟨b, o + i * 3 + j, none⟩ = some v)
instance : Inhabited PAct := ⟨⟨0, ByteArray.empty, none, [], 0⟩⟩
section
variable {H : Type} {enc : TypeId × Value → H} {w : World}
theorem weights_mem_all {P : Program} {e : TypeId} : ∀ {ds : List (DataW H)} {d : DataW H}, d ∈ ds → ∀ n ∈ d.weights P e, n ∈ DataW.weightsAll P e ds
  | d0 :: ds, d, hm, n, hn => by
    simp only [DataW.weightsAll, List.mem_append]
    rcases List.mem_cons.1 hm with rfl | h
    · exact .inl hn
    · exact .inr (weights_mem_all h n hn)
/-- A field of a struct that came in. -/
theorem trod_field {P : Program} {base fuel : Nat} {spare : Nat → Bool} {held : Bool} {t : TypeId} {cs : List Value} {x : DataW H × List MemPlace} {fs : Array Field} (ht : P.underlying t = some (.struct fs)) (h : DataW.trod enc P w base spare held fuel t cs = some x)
    (hw : (x.1.weights P t).all (· ≤ reachBytes) = true) {i : Nat} {f : Field} (hf : fs[i]? = some f) :
    ∃ n y, DataW.trod enc P w base spare held n f.type ((cs.drop f.offset).take (P.cellsOf f.type)) = some y ∧ (y.1.weights P f.type).all (· ≤ reachBytes) = true := by
  obtain ⟨xs, m, _, rfl, hlen, hxs, hg⟩ := DataW.trod_struct ht h
  have hi : i < xs.length := by rw [hxs]; exact (Array.getElem?_eq_some_iff.1 hf).1
  refine ⟨m, xs[i], by rw [hg i f hf, List.getElem?_eq_getElem hi], List.all_eq_true.2 fun n hn => ?_⟩
  refine List.all_eq_true.1 hw n ?_
  simp only [DataW.weights, ht]
  exact DataW.weights_mem_each (j := i) (t := f.type) (d := xs[i].1) (by simp [hf]) (by simp [hi]) n hn
/-- A slice of rows that came in, within something else. -/
theorem open_rowsW {fuel : Nat} {α : Type} [Inhabited α] {cell : α → List Value} {good : α → Prop} {t e : TypeId} {sz bytes : Nat} {ks : List CK} (ht : Try.prog.underlying t = some (.slice e)) (hk : flat Try.prog 3 e = some ks) (hs : Try.prog.cellsOf e = sz) (hpos : 0 < sz) (hb : Try.prog.bytesOf e = bytes) (hbp : 0 < bytes)
    (hfit : ∀ cs, Fits ks cs → ∃ x : α, good x ∧ cs = cell x) {a0 : Option Addr} {len0 cap0 : Nat} {x : DataW H × List MemPlace} (h : DataW.trod enc Try.prog w 0 (fun _ => true) true fuel t [.slice a0 len0 cap0] = some x)
    (hw : (x.1.weights Try.prog t).all (· ≤ reachBytes) = true) :
    ∃ L : List α, len0 = L.length ∧ RowsAt cell sz good w a0 L := by
  rcases open_flat ht 3 sz hk hs hpos h with ⟨hcs, _⟩ | ⟨a, len, cap, m, elems, rest, ps, C, hcs, rfl, hel, hm, hlm, hx⟩
  · simp at hcs
    obtain ⟨rfl, rfl, rfl⟩ := hcs
    exact ⟨[], rfl, RowsAt.empty _ _⟩
  · simp at hcs
    obtain ⟨rfl, rfl, rfl⟩ := hcs
    have hbb : (elems.length + rest.length) * Try.prog.bytesOf e ≤ reachBytes := by
      have := List.all_eq_true.1 hw ((elems.length + rest.length) * Try.prog.bytesOf e) (by simp [DataW.weights, ht])
      simpa using this
    rw [hb] at hbb
    simp only [reachBytes] at hbb
    by_cases hl : 0 < len0
    · obtain ⟨b, o, rfl, hbl, hc⟩ := hx hl
      obtain ⟨its, hits⟩ := Deep.choose_lt (α := α) (n := len0) (p := fun i x => good x ∧ C i = cell x) (fun i hi => hfit _ (hc i hi).1)
      have hle : len0 * bytes ≤ 140737488351232 := by
        have : len0 * bytes ≤ m * bytes := Nat.mul_le_mul_right _ hlm
        rw [← hm] at this
        omega
      have hl1 : len0 ≤ len0 * bytes := Nat.le_mul_of_pos_right _ hbp
      refine ⟨(List.range len0).map its, by simp, by simp; omega, fun _ => ⟨b, o, rfl, hbl, fun i x hi => ?_⟩⟩
      have hil : i < len0 := by simpa using (List.getElem?_eq_some_iff.1 hi).1
      obtain rfl : its i = x := by simpa [hil] using hi
      exact ⟨(hits i hil).1, fun j v hv => (hc i hil).2 j v (by rw [(hits i hil).2]; exact hv)⟩
    · obtain rfl : len0 = 0 := by omega
      exact ⟨[], rfl, RowsAt.empty _ _⟩
def pactKinds : List CK := [.int .i64, .str, .sl]
theorem pact_flat : flat Try.prog 3 48 = some pactKinds := by kernel_rfl
theorem pact_cells : Try.prog.cellsOf 48 = 3 := by kernel_rfl
theorem pitems_cells : Try.prog.cellsOf 22 = 1 := by kernel_rfl
theorem pact_field : ∃ fs, Try.prog.underlying 48 = some (.struct fs) ∧ ∃ f, fs[2]? = some f ∧ f.type = 22 ∧ f.offset = 2 := ⟨_, Try.underlying48, _, rfl, rfl, rfl⟩
set_option maxRecDepth 100000 in
theorem open_pact {fuel : Nat} {cs : List Value} {x : DataW H × List MemPlace} (h : DataW.trod enc Try.prog w 0 (fun _ => true) true fuel 48 cs = some x) (hw : (x.1.weights Try.prog 48).all (· ≤ reachBytes) = true) :
    ∃ p : PAct, cs = p.cells ∧ ItemsAt w p.a p.L := by
  obtain ⟨hl, hf⟩ := flat_fits 3 pact_flat h
  obtain ⟨fs, hu, f, hf2, ht2, ho2⟩ := pact_field
  obtain ⟨n, y, hy, hyw⟩ := trod_field hu h hw hf2
  match cs, hl with
  | [v0, v1, v2], _ =>
    obtain ⟨n0, rfl, _⟩ := hf 0 _ _ rfl rfl
    obtain ⟨s1, rfl, _⟩ := hf 1 _ _ rfl rfl
    obtain ⟨x2, y2, z2, rfl⟩ := hf 2 _ _ rfl rfl
    rw [ho2, ht2, pitems_cells] at hy
    rw [ht2] at hyw
    obtain ⟨L, rfl, hL⟩ := open_rowsW Try.underlying22 item_flat item_cells (by omega) item_bytes (by omega) (fun _ => fits_item) hy hyw
    exact ⟨⟨n0, s1, x2, L, z2⟩, rfl, hL⟩
set_option maxRecDepth 100000 in
theorem open_acts30 {fuel : Nat} {a0 : Option Addr} {len0 cap0 : Nat} {x : DataW H × List MemPlace} (h : DataW.trod enc Try.prog w 0 (fun _ => true) true fuel 42 (Value.cells (.slice a0 len0 cap0)).toList = some x)
    {ts : List TypeId} {ds : List (DataW H)} (hsz : (DataW.weightsEach Try.prog ts ds).all (· ≤ reachBytes) = true) {j : Nat} (ht : ts[j]? = some 42) (hd : ds[j]? = some x.1) : ∃ ms, PActs w a0 len0 ms := by
  have hw : (x.1.weights Try.prog 42).all (· ≤ reachBytes) = true := List.all_eq_true.2 fun n hn => List.all_eq_true.1 hsz n (DataW.weights_mem_each ht hd n hn)
  rcases Deep.open_slice Try.underlying42 h with ⟨hcs, _⟩ | ⟨a, len, cap, m, n, D, Pl, hcs, hb, hl, hm, hmm, rfl, hx⟩
  · simp [Value.cells] at hcs
    obtain ⟨rfl, rfl, rfl⟩ := hcs
    exact ⟨fun _ => default, by unfold maxLen; omega, fun h => by omega⟩
  · simp [Value.cells] at hcs
    obtain ⟨rfl, rfl, rfl⟩ := hcs
    rw [pact_cells] at hx
    have hlm : len0 ≤ m := by rw [hmm]; split <;> omega
    obtain ⟨C, hC⟩ := Deep.choose_lt (α := PAct) (n := len0) (p := fun i c => w.cells? 0 (a.add (i * 3)) 3 = some c.cells ∧ ItemsAt w c.a c.L) (fun i hi => by
      obtain ⟨cs', h1, h2⟩ := hx i (by omega)
      obtain ⟨p, rfl, hp⟩ := open_pact h2 (List.all_eq_true.2 fun n hn => List.all_eq_true.1 hw n (by
        simp only [DataW.weights, Try.underlying42, List.mem_cons, List.mem_append]
        exact .inr (.inl (weights_mem_all (List.mem_map.2 ⟨i, List.mem_range.2 hi, rfl⟩) n hn))))
      exact ⟨p, h1, hp⟩)
    refine ⟨C, by omega, fun hpl => ?_⟩
    obtain ⟨b, o, sp⟩ := a
    have hs := cells_spot (hC 0 (by omega)).1 (by omega)
    have hsp : sp = none := by simpa [Addr.add] using hs.1
    subst hsp
    refine ⟨b, o, rfl, by simpa [Addr.add] using hs.2, fun i hi => ⟨(hC i hi).2, fun j v hv => ?_⟩⟩
    refine cells_get (hC i hi).1 ?_ hv
    unfold Addr.add
    by_cases hi0 : i * 3 = 0
    · simp [hi0]
    · simp [hi0]
end
theorem PActs.at_ {w : World} {a : Option Addr} {len : Nat} {ms : Nat → PAct} (h : PActs w a len ms) {W : World} (ho : Below w.heap.size w W) {i : Nat} (hi : i < len) :
    ∃ b o, a = some ⟨b, o, none⟩ ∧ b < w.heap.size ∧ ItemsAt w (ms i).a (ms i).L ∧ W.cell? ⟨b, o + i * 3, none⟩ = some (.int .i64 (ms i).k) ∧ W.cell? ⟨b, o + i * 3 + 1, none⟩ = some (.string (ms i).ow) ∧ W.cell? ⟨b, o + i * 3 + 2, none⟩ = some (.slice (ms i).a (ms i).L.length (ms i).c) := by
  obtain ⟨b, o, rfl, hb, hx⟩ := h.2 (by omega)
  obtain ⟨h1, h2⟩ := hx i hi
  have hc : ∀ j v, (ms i).cells[j]? = some v → W.cell? ⟨b, o + i * 3 + j, none⟩ = some v := fun j v hv => (ho.cell (p := ⟨b, o + i * 3 + j, none⟩) hb).trans (h2 j v hv)
  exact ⟨b, o, rfl, hb, h1, hc 0 _ rfl, hc 1 _ rfl, hc 2 _ rfl⟩
/-- Items as Alias's walks want them. -/
theorem itemRow_of {w : World} {a : Option Addr} {L : List Itm} (h : ItemsAt w a L) : ItemRow w a L.length (itAt L) := by
  refine ⟨h.1, fun hl => ?_⟩
  obtain ⟨b, o, rfl, hb, hx⟩ := h.2 hl
  exact ⟨b, o, rfl, hb, fun i hi => hx i _ (itAt_get hi)⟩
theorem itList_of (L : List Itm) : itList L.length (itAt L) = L := by
  apply List.ext_getElem?
  intro i
  unfold itList
  by_cases h : i < L.length
  · simp [h, itAt, List.getD]
  · simp [h]

set_option maxRecDepth 100000 in
set_option maxHeartbeats 1000000 in
theorem clear_any (b m : Nat) (l : ATab) (w : World) (h : Tab w b m l) :
    Calls Try.prog 17 #[.pointer (some ⟨b, 0, none⟩)] w fun e w' => e = .returned (.int .i64 l.length) ∧ Tab w' b m [] ∧ Own [m] w w' := by
  have hm : w.cell? ⟨b, 0, none⟩ = some (.map (some m)) := cell_of_row w b 0 _ _ _ h.row
  have cL := Lib.hid (len_any b m l w h)
  obtain ⟨w1, hrun, hM, hO, _⟩ := h.map.clear (P := Try.prog) aMapT 0
  have hT : Tab w1 b m [] := ⟨h.ne, hO.heap h.row (by simpa using h.ne), hM⟩
  have hr2 := fun ty => (h.map.clear (P := Try.prog) aMapT ty)
  cases l with
  | nil =>
    replace h := Lib.hid h
    clear hrun hM hO hT hr2
    go_enter Try.func17, Try.ntmps17
    go_wp2_with (go_at_call 11; (with_reducible refine cL.out.mono ?_); rintro e w2 ⟨rfl, rfl⟩)
    go_ret
    exact ⟨rfl, h.out, Own.refl _ _⟩
  | cons p r =>
    have hl : (0 : Int) < ((p :: r).length : Int) := by simp
    generalize (p :: r).length = len at *
    replace hT := Lib.hid hT
    replace hO := Lib.hid hO
    clear hM h hr2
    go_enter Try.func17, Try.ntmps17
    go_wp2_with (go_at_call 11; (with_reducible refine cL.out.mono ?_); rintro e w2 ⟨rfl, rfl⟩)
    go_ret
    exact ⟨rfl, hT.out, hO.out⟩
end Go.Proofs.Ytjbmmgclkhigiaa
