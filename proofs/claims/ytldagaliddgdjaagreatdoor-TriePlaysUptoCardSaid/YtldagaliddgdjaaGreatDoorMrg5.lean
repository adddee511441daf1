/- How arguments that came in are told to a walk. Types of plain cells (numbers, bools, texts, structs and arrays of these): what a reading says of the cells. No program in sight. Rows of acts (crierlaw19.Act), of filters, that came in; the laws' loop of Add. TrieOrder's plain law: filters that have room, none of them twice, come to the same in any order. No program in sight, but where the tries lie. The document's wishes and the trie's: one thing. No program in sight. -/
import Derived.Test.YtldagaliddgdjaaGreatDoorBase
import Derived.SliceStrings
import Derived.SizedLaws
import Derived.ChangeArms
import Derived.Deep.Slices
import Derived.Test.YtldagaliddgdjaaGreatDoorTrieAwake
import Derived.Test.YtldagaliddgdjaaGreatDoorTrieDoc
namespace Go.Proofs.YtldagaliddgdjaaGreatDoor
open Go.RowKit

theorem reach_string {a : ByteArray} (h : a.data.toList.length ≤ reachBytes) : a.size ≤ 140737488351232 := by
  rw [Array.length_toList] at h
  exact h

/-- A []string that came in: its elements. -/
def StrRow (w : World) (a : Option Addr) (len : Nat) (ss : Nat → ByteArray) : Prop :=
  len ≤ 9223372036854775807 ∧ (0 < len → ∃ b o, a = some ⟨b, o, none⟩ ∧ b < w.heap.size ∧ ∀ i, i < len → w.cell? ⟨b, o + i, none⟩ = some (.string (ss i)))

theorem strRow_nil (w : World) (a : Option Addr) (ss : Nat → ByteArray) : StrRow w a 0 ss := ⟨by omega, fun h => by omega⟩
theorem strRow_of {w : World} {a : Addr} {len cap : Nat} {ss : List ByteArray} (hl : len ≤ cap) (hm : cap ≤ maxLen) (hz : ss.length = cap) (hc : ∀ i, i < ss.length → w.cell? (a.add i) = some (.string (ss.getD i ByteArray.empty))) :
    StrRow w (some a) len (fun i => ss.getD i ByteArray.empty) := by
  refine ⟨by unfold maxLen at hm; omega, fun h => ?_⟩
  obtain ⟨b, o, sp⟩ := a
  have h0 := hc 0 (by omega)
  have hs : sp = none := by simpa [Addr.add] using World.cell?_spot h0
  subst hs
  refine ⟨b, o, rfl, by simpa [Addr.add] using block_lt_of_cell h0, fun i hi => ?_⟩
  have := hc i (by omega)
  unfold Addr.add at this
  by_cases h0 : i = 0
  · subst h0; simpa using this
  · simpa [h0] using this

/-- A slice of integers that came in: its elements. -/
def IntRow (k : IntKind) (w : World) (a : Option Addr) (len : Nat) (zs : Nat → Int) : Prop :=
  len ≤ 9223372036854775807 ∧ (0 < len → ∃ b o, a = some ⟨b, o, none⟩ ∧ b < w.heap.size ∧ ∀ i, i < len → w.cell? ⟨b, o + i, none⟩ = some (.int k (zs i)) ∧ (Lit.int k (zs i)).wf = true)

theorem intRow_nil (k : IntKind) (w : World) (a : Option Addr) (zs : Nat → Int) : IntRow k w a 0 zs := ⟨by omega, fun h => by omega⟩
theorem intRow_of {k : IntKind} {w : World} {a : Addr} {len cap : Nat} {zs : List Int} (hl : len ≤ cap) (hm : cap ≤ maxLen) (hz : zs.length = cap) (hc : ∀ i, i < zs.length → w.cell? (a.add i) = some (.int k (zs.getD i 0)))
    (hw : ∀ n ∈ zs, (Lit.int k n).wf = true) : IntRow k w (some a) len (fun i => zs.getD i 0) := by
  refine ⟨by unfold maxLen at hm; omega, fun h => ?_⟩
  obtain ⟨b, o, sp⟩ := a
  have h0 := hc 0 (by omega)
  have hs : sp = none := by simpa [Addr.add] using World.cell?_spot h0
  subst hs
  refine ⟨b, o, rfl, by simpa [Addr.add] using block_lt_of_cell h0, fun i hi => ⟨?_, ?_⟩⟩
  · have := hc i (by omega)
    unfold Addr.add at this
    by_cases h0 : i = 0
    · subst h0; simpa using this
    · simpa [h0] using this
  · have hi' : i < zs.length := by omega
    refine hw _ ?_
    simp [List.getD, List.getElem?_eq_getElem hi']
end Go.Proofs.YtldagaliddgdjaaGreatDoor

namespace Go.Proofs.YtldagaliddgdjaaGreatDoor
open Go.RowKit

inductive CK where
  | int (k : IntKind)
  | bool
  | str
  | sl
def CK.fits : CK → Value → Prop
  | .int k, v => ∃ n, v = .int k n ∧ (Lit.int k n).wf = true
  | .bool, v => ∃ b, v = .bool b
  | .str, v => ∃ s : ByteArray, v = .string s ∧ s.size ≤ maxLen
  | .sl, v => ∃ a n c, v = .slice a n c
def flatFields (P : Program) (g : TypeId → Option (List CK)) : Nat → List Field → Option (List CK)
  | _, [] => some []
  | off, f :: r => match g f.type with
    | some l => if f.offset = off ∧ P.cellsOf f.type = l.length then (flatFields P g (off + l.length) r).map (l ++ ·) else none
    | none => none
/-- The kinds of a type's cells. -/
def flat (P : Program) : Nat → TypeId → Option (List CK)
  | 0, _ => none
  | n + 1, t => match P.underlying t with
    | some .bool => some [.bool]
    | some (.int k) => some [.int k]
    | some .string => some [.str]
    | some (.slice _) => some [.sl]
    | some (.struct fs) => match flatFields P (flat P n) 0 fs.toList with
      | some l => if P.cellsOf t = l.length then some l else none
      | none => none
    | _ => none
def Fits (ks : List CK) (cs : List Value) : Prop := cs.length = ks.length ∧ ∀ (i : Nat) (k : CK) (v : Value), ks[i]? = some k → cs[i]? = some v → k.fits v

section
variable {H : Type} {enc : TypeId × Value → H} {P : Program} {w : World} {base : Nat} {spare : Nat → Bool} {held : Bool}
theorem flatFields_fits {g : TypeId → Option (List CK)} {n : Nat} {cs : List Value}
    (hg : ∀ t ks cs' x, g t = some ks → DataW.trod enc P w base spare held n t cs' = some x → Fits ks cs') :
    ∀ (fs : List Field) (off : Nat) (ks : List CK), flatFields P g off fs = some ks → off + ks.length ≤ cs.length →
      (∀ f ∈ fs, ∃ x, DataW.trod enc P w base spare held n f.type ((cs.drop f.offset).take (P.cellsOf f.type)) = some x) →
      ∀ i k v, ks[i]? = some k → cs[off + i]? = some v → k.fits v
  | [], off, ks, h, _, _, i, k, v, hk, _ => by simp [flatFields] at h; subst h; simp at hk
  | f :: r, off, ks, h, hlen, hx, i, k, v, hk, hv => by
    unfold flatFields at h
    split at h
    · rename_i l hl
      split at h
      · rename_i hc
        obtain ⟨rest, hrest, rfl⟩ := Option.map_eq_some_iff.1 h
        obtain ⟨x, hx0⟩ := hx f (by simp)
        have hf := hg _ _ _ _ hl hx0
        simp only [List.length_append] at hlen
        by_cases hi : i < l.length
        · rw [List.getElem?_append_left hi] at hk
          refine hf.2 i k v hk ?_
          rw [hc.1, hc.2, List.getElem?_take_of_lt hi, List.getElem?_drop]; exact hv
        · rw [List.getElem?_append_right (by omega)] at hk
          refine flatFields_fits hg r (off + l.length) rest hrest (by omega) (fun f' hf' => hx f' (by simp [hf'])) (i - l.length) k v hk ?_
          rw [show off + l.length + (i - l.length) = off + i by omega]
          exact hv
      · cases h
    · cases h
theorem flat_fits : ∀ (n : Nat) {t : TypeId} {ks : List CK} {fuel : Nat} {cs : List Value} {x : DataW H × List MemPlace}, flat P n t = some ks → DataW.trod enc P w base spare held fuel t cs = some x → Fits ks cs
  | 0, t, ks, fuel, cs, x, h, _ => by simp [flat] at h
  | n + 1, t, ks, fuel, cs, x, h, hx => by
    unfold flat at h
    split at h
    · rename_i hu
      cases h
      obtain ⟨b, rfl, _⟩ := DataW.trod_bool hu hx
      exact ⟨rfl, fun i k v hk hv => by
        match i with
        | 0 => simp at hk hv; subst hk hv; exact ⟨b, rfl⟩
        | i + 1 => simp at hk⟩
    · rename_i k0 hu
      cases h
      obtain ⟨m, rfl, _, hw⟩ := DataW.trod_int hu hx
      exact ⟨rfl, fun i k v hk hv => by
        match i with
        | 0 => simp at hk hv; subst hk hv; exact ⟨m, rfl, hw⟩
        | i + 1 => simp at hk⟩
    · rename_i hu
      cases h
      obtain ⟨s, rfl, _, hs⟩ := DataW.trod_string hu hx
      exact ⟨rfl, fun i k v hk hv => by
        match i with
        | 0 => simp at hk hv; subst hk hv; exact ⟨s, rfl, hs⟩
        | i + 1 => simp at hk⟩
    · rename_i e0 hu
      cases h
      obtain ⟨a, n, c, rfl⟩ : ∃ a n c, cs = [.slice a n c] := by
        rcases Deep.open_slice hu hx with ⟨h1, _⟩ | ⟨a, len, cap, _, _, _, _, h1, _⟩
        · exact ⟨_, _, _, h1⟩
        · exact ⟨_, _, _, h1⟩
      exact ⟨rfl, fun i k v hk hv => by
        match i with
        | 0 => simp at hk hv; subst hk hv; exact ⟨a, n, c, rfl⟩
        | i + 1 => simp at hk⟩
    · rename_i fs hu
      split at h
      · rename_i l hl
        split at h
        · rename_i hc
          cases h
          obtain ⟨xs, m, _, _, hlen, hxs, hf⟩ := DataW.trod_struct hu hx
          refine ⟨by rw [hlen, hc], fun i k v hk hv => ?_⟩
          refine flatFields_fits (n := m) (cs := cs) (g := flat P n) (fun t ks cs' x h1 h2 => flat_fits n h1 h2) fs.toList 0 ks hl (by rw [hlen, hc]; omega) ?_ i k v hk (by rw [Nat.zero_add]; exact hv)
          intro f hfm
          obtain ⟨j, hj⟩ := List.getElem?_of_mem hfm
          have hj' : fs[j]? = some f := by simpa using hj
          have hjl : j < xs.length := by
            rw [hxs]
            exact (Array.getElem?_eq_some_iff.1 hj').1
          exact ⟨xs[j], by rw [hf j f hj', List.getElem?_eq_getElem hjl]⟩
        · cases h
      · cases h
    · cases h

theorem cells_get {a : Addr} {n : Nat} {cs : List Value} (h : w.cells? base a n = some cs) {b o : Nat} (ha : a = ⟨b, o, none⟩) {j : Nat} {v : Value} (hv : cs[j]? = some v) : w.cell? ⟨b, o + j, none⟩ = some v := by
  obtain ⟨_, hl, hc⟩ := World.cells?_some h
  have hj : j < n := by rw [← hl]; exact (List.getElem?_eq_some_iff.1 hv).1
  have := hc j hj
  rw [hv, ha] at this
  unfold Addr.add at this
  by_cases h0 : j = 0
  · subst h0; simpa using this
  · simpa [h0] using this
theorem cells_spot {a : Addr} {n : Nat} {cs : List Value} (h : w.cells? base a n = some cs) (hn : 0 < n) : a.spot = none ∧ a.block < w.heap.size := by
  obtain ⟨_, hl, hc⟩ := World.cells?_some h
  have := hc 0 hn
  obtain ⟨v, hv⟩ : ∃ v, cs[0]? = some v := ⟨cs[0], List.getElem?_eq_getElem (by omega)⟩
  rw [hv] at this
  have h1 : w.cell? a = some v := by simpa [Addr.add] using this
  exact ⟨World.cell?_spot h1, block_lt_of_cell h1⟩

/-- A slice of plain structs that came in: its elements, by their cells. -/
theorem open_flat {t e : TypeId} {fuel : Nat} {cs : List Value} {x : DataW H × List MemPlace} (ht : P.underlying t = some (.slice e)) (n sz : Nat) {ks : List CK} (hk : flat P n e = some ks) (hsz : P.cellsOf e = sz) (hpos : 0 < sz)
    (h : DataW.trod enc P w base spare held fuel t cs = some x) :
    (cs = [.slice none 0 0] ∧ x = (.nil, [])) ∨
    ∃ (a : Addr) (len cap m : Nat) (elems rest : List (DataW H)) (ps : List MemPlace) (C : Nat → List Value), cs = [.slice (some a) len cap] ∧ x = (.slice elems rest, ps) ∧ elems.length = len ∧ elems.length + rest.length = m ∧ len ≤ m ∧
      (0 < len → ∃ b o, a = ⟨b, o, none⟩ ∧ b < w.heap.size ∧ ∀ i, i < len → Fits ks (C i) ∧ ∀ j v, (C i)[j]? = some v → w.cell? ⟨b, o + i * sz + j, none⟩ = some v) := by
  rcases Deep.open_slice ht h with h0 | ⟨a, len, cap, m, n', D, Pl, rfl, hb, hl, hm, hmm, rfl, hx⟩
  · exact .inl h0
  right
  rw [hsz] at hx
  have hlm : len ≤ m := by rw [hmm]; split <;> omega
  obtain ⟨C, hC⟩ := Deep.choose_lt (α := List Value) (p := fun i cs => w.cells? base (a.add (i * sz)) sz = some cs ∧ Fits ks cs) (fun i hi => by
    obtain ⟨cs', h1, h2⟩ := hx i hi
    exact ⟨cs', h1, flat_fits n hk h2⟩)
  refine ⟨a, len, cap, m, _, _, _, C, rfl, rfl, by simp, by simp; omega, hlm, fun hpl => ?_⟩
  obtain ⟨b, o, sp⟩ := a
  have h0 := (hC 0 (by omega)).1
  have hs := cells_spot h0 hpos
  have hsp : sp = none := by simpa [Addr.add] using hs.1
  subst hsp
  refine ⟨b, o, rfl, by simpa [Addr.add] using hs.2, fun i hi => ⟨(hC i (by omega)).2, fun j v hv => ?_⟩⟩
  refine cells_get (hC i (by omega)).1 ?_ hv
  unfold Addr.add
  by_cases hi0 : i * sz = 0
  · simp [hi0]
  · simp [hi0]
end

/-- A []bool that came in: its elements. -/
def BoolRow (w : World) (a : Option Addr) (len : Nat) (bs : Nat → Bool) : Prop :=
  len ≤ 9223372036854775807 ∧ (0 < len → ∃ b o, a = some ⟨b, o, none⟩ ∧ b < w.heap.size ∧ ∀ i, i < len → w.cell? ⟨b, o + i, none⟩ = some (.bool (bs i)))
theorem open_bools {H : Type} {enc : TypeId × Value → H} {P : Program} {w : World} {fuel : Nat} {t e : TypeId} (ht : P.underlying t = some (.slice e)) (he : P.underlying e = some .bool) (hc : P.cellsOf e = 1) {a0 : Option Addr} {len0 cap0 : Nat} {x : DataW H × List MemPlace}
    (h : DataW.trod enc P w 0 (fun _ => true) true fuel t (Value.cells (.slice a0 len0 cap0)).toList = some x) : ∃ bs, BoolRow w a0 len0 bs := by
  have hk : flat P 1 e = some [.bool] := by simp [flat, he]
  have hcm : len0 ≤ maxLen := by
    rcases Deep.open_slice ht h with ⟨hcs, _⟩ | ⟨a, len, cap, m, n, D, Pl, hcs, _, hl, hm, _⟩
    · simp [Value.cells] at hcs; omega
    · simp [Value.cells] at hcs; omega
  unfold maxLen at hcm
  rcases open_flat ht 1 1 hk hc (by omega) h with ⟨hcs, _⟩ | ⟨a, len, cap, m, elems, rest, ps, C, hcs, _, _, _, _, hx⟩
  · simp [Value.cells] at hcs
    obtain ⟨rfl, rfl, rfl⟩ := hcs
    exact ⟨fun _ => false, by omega, fun hl => by omega⟩
  · simp [Value.cells] at hcs
    obtain ⟨rfl, rfl, rfl⟩ := hcs
    by_cases hl : 0 < len0
    · obtain ⟨b, o, rfl, hbl, hc2⟩ := hx hl
      obtain ⟨bs, hbs⟩ := Deep.choose_lt (α := Bool) (n := len0) (p := fun i b => C i = [.bool b]) (fun i hi => by
        obtain ⟨hlen, hf⟩ := (hc2 i hi).1
        match hCi : C i, hlen with
        | [v], _ =>
          rw [hCi] at hf
          obtain ⟨b, rfl⟩ := hf 0 _ _ rfl rfl
          exact ⟨b, rfl⟩)
      exact ⟨bs, by omega, fun _ => ⟨b, o, rfl, hbl, fun i hi => by
        have := (hc2 i hi).2 0 (.bool (bs i)) (by rw [hbs i hi]; rfl)
        simpa using this⟩⟩
    · exact ⟨fun _ => false, by omega, fun h => by omega⟩
end Go.Proofs.YtldagaliddgdjaaGreatDoor

namespace Go.Proofs.YtldagaliddgdjaaGreatDoor
open Go.RowKit Go.ChangeShapes Go.WideShapes Go.Lib Go.Shelf Go.Sort

structure AAct where
  k : Int
  who : Int
  f : ByteArray
  q : Int
def AAct.cells (x : AAct) : List Value := [.int .i64 x.k, .int .i64 x.who, .string x.f, .int .i64 x.q]
/-- A row of something that came in: its elements. -/
def RowOf {α : Type} (cells : α → List Value) (sz : Nat) (w : World) (a : Option Addr) (len : Nat) (ms : Nat → α) : Prop :=
  len ≤ maxLen ∧ (0 < len → ∃ b o, a = some ⟨b, o, none⟩ ∧ b < w.heap.size ∧ ∀ i, i < len → ∀ j v, (cells (ms i))[j]? = some v → w.cell? ⟨b, o + i * sz + j, none⟩ = some v)
theorem RowOf.below {α : Type} {cells : α → List Value} {sz : Nat} {w w' : World} {a : Option Addr} {len : Nat} {ms : Nat → α} (h : RowOf cells sz w a len ms) (ho : Below w.heap.size w w') : RowOf cells sz w' a len ms := by
  obtain ⟨h1, h2⟩ := h
  refine ⟨h1, fun hl => ?_⟩
  obtain ⟨b, o, rfl, hb, hx⟩ := h2 hl
  have := ho.size
  exact ⟨b, o, rfl, by omega, fun i hi j v hj => (ho.cell (p := ⟨b, o + i * sz + j, none⟩) hb).trans (hx i hi j v hj)⟩
def actKinds : List CK := [.int .i64, .int .i64, .str, .int .i64]
theorem act_flat : flat Tryz.prog 4 34 = some actKinds := by kernel_rfl
theorem act_cells : Tryz.prog.cellsOf 34 = 4 := by kernel_rfl
theorem fits_act {cs : List Value} (h : Fits actKinds cs) : ∃ x : AAct, cs = x.cells := by
  obtain ⟨hl, hf⟩ := h
  match cs, hl with
  | [v0, v1, v2, v3], _ =>
    obtain ⟨n0, rfl, _⟩ := hf 0 _ _ rfl rfl
    obtain ⟨n1, rfl, _⟩ := hf 1 _ _ rfl rfl
    obtain ⟨s2, rfl, _⟩ := hf 2 _ _ rfl rfl
    obtain ⟨n3, rfl, _⟩ := hf 3 _ _ rfl rfl
    exact ⟨⟨n0, n1, s2, n3⟩, rfl⟩
theorem open_row {α : Type} [Inhabited α] {cells : α → List Value} {sz n : Nat} {t e : TypeId} {ks : List CK} (ht : Tryz.prog.underlying t = some (.slice e)) (hk : flat Tryz.prog n e = some ks) (hc : Tryz.prog.cellsOf e = sz) (hpos : 0 < sz) (hfit : ∀ {cs : List Value}, Fits ks cs → ∃ x : α, cs = cells x)
    {H : Type} {enc : TypeId × Value → H} {w : World} {fuel : Nat} {a0 : Option Addr} {len0 cap0 : Nat} {x : DataW H × List MemPlace} (h : DataW.trod enc Tryz.prog w 0 (fun _ => true) true fuel t (Value.cells (.slice a0 len0 cap0)).toList = some x) :
    ∃ ms, RowOf cells sz w a0 len0 ms := by
  have hcm : len0 ≤ maxLen := by
    rcases Deep.open_slice ht h with ⟨hcs, _⟩ | ⟨a, len, cap, m, n, D, Pl, hcs, _, hl, hm, _⟩
    · simp [Value.cells] at hcs; omega
    · simp [Value.cells] at hcs; omega
  rcases open_flat ht n sz hk hc hpos h with ⟨hcs, _⟩ | ⟨a, len, cap, m, elems, rest, ps, C, hcs, _, hel, hm, hlm, hx⟩
  · simp [Value.cells] at hcs
    obtain ⟨rfl, rfl, rfl⟩ := hcs
    exact ⟨fun _ => default, Nat.zero_le _, fun h => by omega⟩
  · simp [Value.cells] at hcs
    obtain ⟨rfl, rfl, rfl⟩ := hcs
    by_cases hl : 0 < len0
    · obtain ⟨b, o, rfl, hbl, hc⟩ := hx hl
      obtain ⟨ms, hms⟩ := Deep.choose_lt (α := α) (n := len0) (p := fun i x => C i = cells x) (fun i hi => hfit (hc i hi).1)
      exact ⟨ms, hcm, fun _ => ⟨b, o, rfl, hbl, fun i hi j v hv => (hc i hi).2 j v (by rw [hms i hi]; exact hv)⟩⟩
    · obtain rfl : len0 = 0 := by omega
      exact ⟨fun _ => default, Nat.zero_le _, fun h => by omega⟩
instance : Inhabited AAct := ⟨⟨0, 0, ByteArray.empty, 0⟩⟩
theorem open_acts {H : Type} {enc : TypeId × Value → H} {w : World} {fuel : Nat} {a0 : Option Addr} {len0 cap0 : Nat} {x : DataW H × List MemPlace} (h : DataW.trod enc Tryz.prog w 0 (fun _ => true) true fuel 22 (Value.cells (.slice a0 len0 cap0)).toList = some x)
    {ts : List TypeId} {ds : List (DataW H)} (_hsz : (DataW.weightsEach Tryz.prog ts ds).all (· ≤ reachBytes) = true) {j : Nat} (_ht : ts[j]? = some 22) (_hd : ds[j]? = some x.1) : ∃ ms, RowOf AAct.cells 4 w a0 len0 ms :=
  open_row Tryz.underlying22 act_flat act_cells (by omega) fits_act h

/-- What adding each of the first acts comes to. -/
def addAll (ms : Nat → AAct) : Nat → Wishes
  | 0 => fun _ => []
  | i + 1 => (tAdd (addAll ms i) (ms i).who (ms i).f (ms i).q).2
/-- The trie, and where it lies: nothing of it is older than B. -/
def TrieB (B : Nat) (w : World) (t : Nat) (F : List Nat) (A : Wishes) : Prop := TrieF w t F A ∧ ∀ x ∈ F, B ≤ x
theorem TrieB.left {B : Nat} {w w' : World} {t : Nat} {F : List Nat} {A A' : Wishes} (h : TrieB B w t F A) (hB : B ≤ w.heap.size) (hL : Left w t F A' w') : (∃ F', TrieB B w' t F' A') ∧ Below B w w' := by
  obtain ⟨F', h1, h2, h3⟩ := hL
  refine ⟨⟨F', h1, fun x hx => ?_⟩, h3.below hB h.2⟩
  rcases h2 x hx with h4 | h4
  · exact h.2 x h4
  · omega
theorem TrieB.same {B : Nat} {w w' : World} {t : Nat} {F : List Nat} {A A' : Wishes} (h : TrieB B w t F A) (hB : B ≤ w.heap.size) (h1 : TrieF w' t F A') (h2 : Own F w w') : TrieB B w' t F A' ∧ Below B w w' := ⟨⟨h1, h.2⟩, h2.below hB h.2⟩
theorem TrieB.nil' {B : Nat} {w w' : World} {t : Nat} {F : List Nat} {A : Wishes} (h : TrieB B w t F A) (ho : Own [] w w') : TrieB B w' t F A := ⟨h.1.nil' ho, h.2⟩
end Go.Proofs.YtldagaliddgdjaaGreatDoor

namespace Go.Proofs.YtldagaliddgdjaaGreatDoor
open Go.RowKit Go.ChangeShapes Go.WideShapes Go.Lib Go.Shelf Go.Sort

def okp (x : ByteArray × Int) : Prop := lvFilter x.1 = true ∧ 0 ≤ x.2 ∧ x.2 ≤ 2
/-- What the filters of some places come to. -/
def Sp (T : List (ByteArray × Int)) (A : Wishes) (P : Nat → Prop) (c : Nat) : Prop :=
  (∀ (k : Nat) (s : ByteArray) (q : Int), aGet (A k) s = some q ↔ ∃ j, P j ∧ j % 3 = k ∧ T[j]? = some (s, q) ∧ okp (s, q)) ∧ ∀ k, (A k).length ≤ c
theorem Sp.nothing (T : List (ByteArray × Int)) (P : Nat → Prop) (h : ∀ j, ¬ P j) : Sp T (fun _ => []) P 0 :=
  ⟨fun k s q => ⟨fun h => by simp [aGet] at h, fun ⟨j, hj, _⟩ => absurd hj (h j)⟩, fun _ => Nat.le_refl _⟩
theorem uniq_at {T : List (ByteArray × Int)} (hn : (T.map (·.1)).Nodup) {i j : Nat} {s : ByteArray} {q r : Int} (hi : T[i]? = some (s, q)) (hj : T[j]? = some (s, r)) : i = j := by
  obtain ⟨hil, ei⟩ := List.getElem?_eq_some_iff.1 hi
  obtain ⟨hjl, ej⟩ := List.getElem?_eq_some_iff.1 hj
  have hp := List.pairwise_iff_getElem.1 hn
  rcases Nat.lt_trichotomy i j with h | h | h
  · have e : (T.map (·.1))[i]'(by simpa using hil) = (T.map (·.1))[j]'(by simpa using hjl) := by rw [List.getElem_map, List.getElem_map, ei, ej]
    exact absurd e (hp i j (by simpa using hil) (by simpa using hjl) h)
  · exact h
  · have e : (T.map (·.1))[j]'(by simpa using hjl) = (T.map (·.1))[i]'(by simpa using hil) := by rw [List.getElem_map, List.getElem_map, ei, ej]
    exact absurd e (hp j i (by simpa using hjl) (by simpa using hil) h)
theorem Sp.add {T : List (ByteArray × Int)} {A : Wishes} {P P' : Nat → Prop} {c j : Nat} {s : ByteArray} {q : Int} (h : Sp T A P c) (hn : (T.map (·.1)).Nodup) (hj : T[j]? = some (s, q)) (hP : ¬ P j) (hP' : ∀ i, P' i ↔ P i ∨ i = j) (hc : c < 16) :
    Sp T (tAdd A ((j % 3 : Nat) : Int) s q).2 P' (c + 1) := by
  have hno : okp (s, q) → aGet (A (j % 3)) s = none := fun _ => by
    cases hg : aGet (A (j % 3)) s with
    | none => rfl
    | some r =>
      obtain ⟨i, hPi, _, hi, _⟩ := (h.1 _ _ _).1 hg
      rw [uniq_at hn hi hj] at hPi
      exact absurd hPi hP
  have hskip : ¬ okp (s, q) → Sp T A P' (c + 1) := fun hb => ⟨fun k t r => by
    rw [h.1]
    constructor
    · rintro ⟨i, h1, h2⟩; exact ⟨i, (hP' i).2 (.inl h1), h2⟩
    · rintro ⟨i, h1, h2, h3, h4⟩
      rcases (hP' i).1 h1 with h5 | h5
      · exact ⟨i, h5, h2, h3, h4⟩
      · subst h5
        rw [hj] at h3
        obtain ⟨rfl, rfl⟩ := Prod.mk.inj (Option.some.inj h3)
        exact absurd h4 hb, fun k => by have := h.2 k; omega⟩
  have hmod : j % 3 < 3 := Nat.mod_lt _ (by omega)
  unfold tAdd
  rw [if_neg (by omega), Int.toNat_natCast]
  split
  · rename_i hf; exact hskip (fun hb => by rw [hb.1] at hf; cases hf)
  · rename_i hf
    split
    · rename_i hq; exact hskip (fun hb => by obtain ⟨_, h1, h2⟩ := hb; simp only at h1 h2; omega)
    · rename_i hq
      have hok : okp (s, q) := ⟨by simpa using hf, by simp only; omega, by simp only; omega⟩
      have hl := h.2 (j % 3)
      rw [if_neg (by omega)]
      simp only
      refine ⟨fun k t r => ?_, fun k => ?_⟩
      · unfold upd
        by_cases hk : k = j % 3
        · rw [if_pos hk, aGet_putG]
          by_cases ht : t = s
          · rw [if_pos ht]
            constructor
            · intro e
              cases e
              exact ⟨j, (hP' j).2 (.inr rfl), hk.symm, by rw [ht]; exact hj, by rw [ht]; exact hok⟩
            · rintro ⟨i, _, _, h3, _⟩
              rw [ht] at h3
              have := uniq_at hn h3 hj
              rw [this, hj] at h3
              exact congrArg some (Prod.mk.inj (Option.some.inj h3)).2
          · rw [if_neg ht, ← hk, h.1]
            constructor
            · rintro ⟨i, h1, h2⟩; exact ⟨i, (hP' i).2 (.inl h1), h2⟩
            · rintro ⟨i, h1, h2, h3, h4⟩
              rcases (hP' i).1 h1 with h5 | h5
              · exact ⟨i, h5, h2, h3, h4⟩
              · subst h5
                rw [hj] at h3
                exact absurd (Prod.mk.inj (Option.some.inj h3)).1.symm ht
        · rw [if_neg hk, h.1]
          constructor
          · rintro ⟨i, h1, h2⟩; exact ⟨i, (hP' i).2 (.inl h1), h2⟩
          · rintro ⟨i, h1, h2, h3, h4⟩
            rcases (hP' i).1 h1 with h5 | h5
            · exact ⟨i, h5, h2, h3, h4⟩
            · subst h5; exact absurd h2.symm hk
      · unfold upd
        split
        · rw [aPutG_len]; split <;> omega
        · have := h.2 k; omega
theorem Sp.same {T : List (ByteArray × Int)} {A B : Wishes} {P P' : Nat → Prop} {c d : Nat} (hA : Sp T A P c) (hB : Sp T B P' d) (hp : ∀ j, j < T.length → (P j ↔ P' j)) (kA : ∀ k, ((A k).map (·.1)).Nodup) (kB : ∀ k, ((B k).map (·.1)).Nodup) (k : Nat) : (A k).Perm (B k) := by
  refine get_perm (kA k) (kB k) (fun s => ?_)
  have : ∀ q, aGet (A k) s = some q ↔ aGet (B k) s = some q := fun q => by
    rw [hA.1, hB.1]
    constructor
    · rintro ⟨j, h1, h2, h3, h4⟩; exact ⟨j, (hp j (List.getElem?_eq_some_iff.1 h3).1).1 h1, h2, h3, h4⟩
    · rintro ⟨j, h1, h2, h3, h4⟩; exact ⟨j, (hp j (List.getElem?_eq_some_iff.1 h3).1).2 h1, h2, h3, h4⟩
  cases hb : aGet (B k) s with
  | some q => exact (this q).2 hb
  | none =>
    cases ha : aGet (A k) s with
    | none => rfl
    | some q => rw [(this q).1 ha] at hb; cases hb
theorem of_same {A B : Wishes} (h : ∀ k, (A k).Perm (B k)) {who : Int} {R R' : List (ByteArray × Int)} (hR : tOf A who R) (hR' : tOf B who R') : R = R' := by
  unfold tOf at hR hR'
  split at hR
  · rename_i hw; rw [if_pos hw] at hR'; rw [hR, hR']
  · rename_i hw
    rw [if_neg hw] at hR'
    exact rises_eq (hR.1.trans ((h _).trans hR'.1.symm)) hR.2 hR'.2
theorem hits_same {A B : Wishes} (h : ∀ k, (A k).Perm (B k)) {s : ByteArray} {R R' : List (Int × Int)} (hR : tHits A s R) (hR' : tHits B s R') : R = R' := by
  unfold tHits at hR hR'
  split at hR
  · rename_i hw; rw [if_pos hw] at hR'; rw [hR, hR']
  · rename_i hw
    rw [if_neg hw] at hR'
    refine hits_eq hR.1 hR'.1 (fun p => ?_)
    obtain ⟨k, q⟩ := p
    rw [hR.2, hR'.2]
    have hW : ∀ n : Nat, IsBest (Wanted A n s) (some q) ↔ IsBest (Wanted B n s) (some q) := fun n => by
      have he : ∀ v, Wanted A n s v ↔ Wanted B n s v := fun v =>
        ⟨fun ⟨p, hp, h2⟩ => ⟨p, (h n).subset hp, h2⟩, fun ⟨p, hp, h2⟩ => ⟨p, (h n).symm.subset hp, h2⟩⟩
      exact ⟨best_congr he, best_congr fun v => (he v).symm⟩
    exact ⟨fun ⟨n, h1, h2⟩ => ⟨n, h1, (hW n).1 h2⟩, fun ⟨n, h1, h2⟩ => ⟨n, h1, (hW n).2 h2⟩⟩
theorem len_same {A B : Wishes} (h : ∀ k, (A k).Perm (B k)) : tLen A = tLen B := by
  unfold tLen
  rw [(h 0).length_eq, (h 1).length_eq, (h 2).length_eq, (h 3).length_eq, (h 4).length_eq, (h 5).length_eq, (h 6).length_eq, (h 7).length_eq]

/-- Two tries, and a list of filters, none of which lies where another does. -/
structure Two (B0 : Nat) (w : World) (ta tb : Nat) (Fa Fb : List Nat) (A B : Wishes) (v : Value) (T : List (ByteArray × Int)) : Prop where
  a : TrieF w ta Fa A
  b : TrieF w tb Fb B
  ap : ∀ x ∈ Fa, x ∉ Fb
  la : ∀ x ∈ Fa, B0 ≤ x
  lb : ∀ x ∈ Fb, B0 ≤ x
  rd : Reads fEnc w v T
  bl : ∀ g, v.ownBlock = some g → g ∉ Fa ∧ g ∉ Fb ∧ g < w.heap.size
  base : B0 ≤ w.heap.size
theorem Two.nil' {B0 : Nat} {w w' : World} {ta tb : Nat} {Fa Fb : List Nat} {A B : Wishes} {v : Value} {T : List (ByteArray × Int)} (h : Two B0 w ta tb Fa Fb A B v T) (ho : Own [] w w') : Two B0 w' ta tb Fa Fb A B v T :=
  ⟨h.a.nil' ho, h.b.nil' ho, h.ap, h.la, h.lb, h.rd.nil' ho, fun g hg => ⟨(h.bl g hg).1, (h.bl g hg).2.1, Nat.lt_of_lt_of_le (h.bl g hg).2.2 ho.size⟩, Nat.le_trans h.base ho.size⟩
theorem Two.addA {B0 : Nat} {w w' : World} {ta tb : Nat} {Fa Fb : List Nat} {A A' B : Wishes} {v : Value} {T : List (ByteArray × Int)} (h : Two B0 w ta tb Fa Fb A B v T) (hL : Left w ta Fa A' w') : (∃ F, Two B0 w' ta tb F Fb A' B v T) ∧ Below B0 w w' := by
  obtain ⟨F', h1, h2, h3⟩ := hL
  have hs := h3.size
  have hlt := h.b.lt
  refine ⟨⟨F', h1, h.b.own h3 (fun x hx hy => h.ap x hy hx), fun x hx hy => ?_, fun x hx => ?_, h.lb, h.rd.own h3 (fun g hg => (h.bl g hg).1), fun g hg => ⟨fun hx => ?_, (h.bl g hg).2.1, Nat.lt_of_lt_of_le (h.bl g hg).2.2 hs⟩, Nat.le_trans h.base hs⟩, h3.below h.base h.la⟩
  · rcases h2 x hx with h4 | h4
    · exact h.ap x h4 hy
    · have := hlt x hy; omega
  · rcases h2 x hx with h4 | h4
    · exact h.la x h4
    · exact Nat.le_trans h.base h4
  · rcases h2 g hx with h4 | h4
    · exact (h.bl g hg).1 h4
    · have := (h.bl g hg).2.2; omega
theorem Two.addB {B0 : Nat} {w w' : World} {ta tb : Nat} {Fa Fb : List Nat} {A B B' : Wishes} {v : Value} {T : List (ByteArray × Int)} (h : Two B0 w ta tb Fa Fb A B v T) (hL : Left w tb Fb B' w') : (∃ F, Two B0 w' ta tb Fa F A B' v T) ∧ Below B0 w w' := by
  obtain ⟨F', h1, h2, h3⟩ := hL
  have hs := h3.size
  have hlt := h.a.lt
  refine ⟨⟨F', h.a.own h3 (fun x hx hy => h.ap x hx hy), h1, fun x hx hy => ?_, h.la, fun x hx => ?_, h.rd.own h3 (fun g hg => (h.bl g hg).2.1), fun g hg => ⟨(h.bl g hg).1, fun hx => ?_, Nat.lt_of_lt_of_le (h.bl g hg).2.2 hs⟩, Nat.le_trans h.base hs⟩, h3.below h.base h.lb⟩
  · rcases h2 x hy with h4 | h4
    · exact h.ap x hx h4
    · have := hlt x hx; omega
  · rcases h2 x hx with h4 | h4
    · exact h.lb x h4
    · exact Nat.le_trans h.base h4
  · rcases h2 g hx with h4 | h4
    · exact (h.bl g hg).2.1 h4
    · have := (h.bl g hg).2.2; omega

/-! ### filters that came in -/
def filtKinds : List CK := [.str, .int .i64]
theorem filt_flat : flat Tryz.prog 4 32 = some filtKinds := by kernel_rfl
theorem filt_cells : Tryz.prog.cellsOf 32 = 2 := by kernel_rfl
instance : Inhabited (ByteArray × Int) := ⟨(ByteArray.empty, 0)⟩
theorem fits_filt {cs : List Value} (h : Fits filtKinds cs) : ∃ x : ByteArray × Int, cs = fEnc x := by
  obtain ⟨hl, hf⟩ := h
  match cs, hl with
  | [v0, v1], _ =>
    obtain ⟨s0, rfl, _⟩ := hf 0 _ _ rfl rfl
    obtain ⟨n1, rfl, _⟩ := hf 1 _ _ rfl rfl
    exact ⟨(s0, n1), rfl⟩
theorem open_filts {H : Type} {enc : TypeId × Value → H} {w : World} {fuel : Nat} {a0 : Option Addr} {len0 cap0 : Nat} {x : DataW H × List MemPlace} (h : DataW.trod enc Tryz.prog w 0 (fun _ => true) true fuel 40 (Value.cells (.slice a0 len0 cap0)).toList = some x)
    {ts : List TypeId} {ds : List (DataW H)} (_hsz : (DataW.weightsEach Tryz.prog ts ds).all (· ≤ reachBytes) = true) {j : Nat} (_ht : ts[j]? = some 40) (_hd : ds[j]? = some x.1) : ∃ ms, RowOf fEnc 2 w a0 len0 ms :=
  open_row Tryz.underlying40 filt_flat filt_cells (by omega) fits_filt h
end Go.Proofs.YtldagaliddgdjaaGreatDoor

namespace Go.Proofs.YtldagaliddgdjaaGreatDoor
open Go.RowKit Go.Lib Go.Shelf Go.Sort

def rOf (r : Ws) (k : Int) : List (ByteArray × Int) := (r.filter fun p => p.1.1 == k).map fun p => (p.1.2, p.2)
theorem aGet_cons {κ α : Type} [BEq κ] (p : κ × α) (l : List (κ × α)) (k : κ) : aGet (p :: l) k = if p.1 == k then some p.2 else aGet l k := by
  unfold aGet
  rw [List.find?_cons]
  cases h : p.1 == k <;> simp
theorem aGet_rOf (r : Ws) (k : Int) (s : ByteArray) : aGet (rOf r k) s = aGet r (k, s) := by
  induction r with
  | nil => rfl
  | cons p r ih =>
    obtain ⟨⟨p1, p2⟩, p3⟩ := p
    rw [aGet_cons]
    unfold rOf at ih ⊢
    rw [List.filter_cons]
    by_cases h : p1 = k
    · subst h
      simp only [beq_self_eq_true, if_true, List.map_cons]
      rw [aGet_cons, ih]
      have : (((p1, p2) : Int × ByteArray) == (p1, s)) = (p2 == s) := by
        by_cases e : p2 = s
        · subst e; simp
        · have h2 : ((p1, p2) : Int × ByteArray) ≠ (p1, s) := fun x => e (Prod.mk.inj x).2
          rw [beq_eq_false_iff_ne.2 h2, beq_eq_false_iff_ne.2 e]
      simp only [this]
    · have h1 : (p1 == k) = false := by simpa using h
      have h2 : ((p1, p2) : Int × ByteArray) ≠ (k, s) := fun x => h (Prod.mk.inj x).1
      simp only [h1, Bool.false_eq_true, if_false]
      rw [ih, beq_eq_false_iff_ne.2 h2]
      simp
theorem rOf_nodup {r : Ws} (h : (r.map (·.1)).Nodup) (k : Int) : ((rOf r k).map (·.1)).Nodup := by
  unfold rOf
  rw [List.map_map]
  have h1 : (r.filter fun p => p.1.1 == k).Pairwise fun a b => a.1 ≠ b.1 := (List.pairwise_map.1 h).filter _
  refine List.pairwise_map.2 ((List.pairwise_iff_forall_sublist.2 fun {a b} hs => ?_))
  have hab := List.pairwise_iff_forall_sublist.1 h1 hs
  have ha := (List.mem_filter.1 (hs.subset (List.mem_cons_self ..))).2
  have hb := (List.mem_filter.1 (hs.subset (List.mem_cons_of_mem _ (List.mem_cons_self ..)))).2
  intro e
  simp only [Function.comp, beq_iff_eq] at e ha hb
  exact hab (Prod.ext (ha.trans hb.symm) e)
theorem wCount_rOf (r : Ws) (k : Int) : wCount r k = (rOf r k).length := by
  unfold wCount rOf
  rw [List.length_map, List.countP_eq_length_filter]
/-- Both know the same wishes. -/
structure Alike (A : Wishes) (r : Ws) : Prop where
  keys : (r.map (·.1)).Nodup
  get : ∀ (k : Nat) (s : ByteArray), aGet r ((k : Int), s) = aGet (A k) s
  who : ∀ p ∈ r, 0 ≤ p.1.1 ∧ p.1.1 < 8
theorem alike_nil : Alike (fun _ => []) [] := ⟨by simp, fun _ _ => rfl, by simp⟩
theorem Alike.perm {A : Wishes} {r : Ws} (h : Alike A r) (hA : ∀ k, ((A k).map (·.1)).Nodup) (k : Nat) : (rOf r k).Perm (A k) :=
  get_perm (rOf_nodup h.keys _) (hA k) (fun s => by rw [aGet_rOf, h.get])
theorem Alike.count {A : Wishes} {r : Ws} (h : Alike A r) (hA : ∀ k, ((A k).map (·.1)).Nodup) (k : Nat) : wCount r k = (A k).length := by
  rw [wCount_rOf, (h.perm hA k).length_eq]
theorem wPos_isSome (r : Ws) (k : Int) (s : ByteArray) : wPos r k s < r.length ↔ (aGet r (k, s)).isSome = true := by
  unfold wPos aGet
  rw [List.findIdx_lt_length, Option.isSome_map, List.find?_isSome]
theorem aPut_at {κ α : Type} [BEq κ] [LawfulBEq κ] (k : κ) (v : α) : ∀ r : List (κ × α), aPut r k v = if r.findIdx (fun p => p.1 == k) < r.length then r.set (r.findIdx fun p => p.1 == k) (k, v) else r ++ [(k, v)]
  | [] => by simp [aPut]
  | p :: r => by
    unfold aPut
    rw [List.findIdx_cons]
    by_cases h : p.1 == k
    · simp [h]
    · have h1 : (p.1 == k) = false := by simpa using h
      rw [h1, if_neg (by simp), aPut_at k v r]
      simp only [cond_false, List.length_cons]
      by_cases h2 : r.findIdx (fun p => p.1 == k) < r.length
      · rw [if_pos h2, if_pos (by omega), List.set_cons_succ]
      · rw [if_neg h2, if_neg (by omega), List.cons_append]
theorem aDel_at {κ α : Type} [BEq κ] [LawfulBEq κ] (k : κ) : ∀ r : List (κ × α), (r.map (·.1)).Nodup → r.findIdx (fun p => p.1 == k) < r.length → aDel r k = r.take (r.findIdx fun p => p.1 == k) ++ r.drop (r.findIdx (fun p => p.1 == k) + 1)
  | [], _, h => by simp at h
  | p :: r, hn, h => by
    rw [List.map_cons, List.nodup_cons] at hn
    unfold aDel
    rw [List.findIdx_cons, List.filter_cons]
    by_cases h1 : p.1 == k
    · have hk : p.1 = k := eq_of_beq h1
      rw [h1]
      simp only [Bool.not_true, Bool.false_eq_true, if_false, cond_true, List.take_zero, List.nil_append, Nat.zero_add, List.drop_succ_cons, List.drop_zero]
      refine List.filter_eq_self.2 fun q hq => ?_
      have : q.1 ≠ k := fun e => hn.1 (by rw [hk, ← e]; exact List.mem_map.2 ⟨q, hq, rfl⟩)
      simp [this]
    · have h2 : (p.1 == k) = false := by simpa using h1
      rw [List.findIdx_cons, h2] at h
      simp only [cond_false, List.length_cons] at h
      have ih := aDel_at k r hn.2 (by omega)
      unfold aDel at ih
      rw [h2]
      simp only [Bool.not_false, if_true, cond_false, List.take_succ_cons, List.drop_succ_cons, List.cons_append]
      rw [ih]

theorem Alike.put {A : Wishes} {r : Ws} (h : Alike A r) {k : Nat} (hk : k < 8) (s : ByteArray) (q : Int) : Alike (upd A k (aPut (A k) s q)) (aPut r ((k : Int), s) q) := by
  refine ⟨aPutG_nodup h.keys _ _, fun j t => ?_, fun p hp => ?_⟩
  · unfold upd
    rw [aGet_putG]
    by_cases hj : j = k
    · subst hj
      rw [if_pos rfl, aGet_putG, h.get]
      by_cases ht : t = s
      · subst ht; rw [if_pos rfl, if_pos rfl]
      · rw [if_neg ht, if_neg (fun e => ht (Prod.mk.inj e).2)]
    · rw [if_neg hj, if_neg (fun e => hj (by have := (Prod.mk.inj e).1; omega)), h.get]
  · have hm := (aPut_perm h.keys ((k : Int), s) q).subset hp
    rcases List.mem_cons.1 hm with e | e
    · rw [e]; simp only; omega
    · exact h.who p (List.mem_filter.1 e).1
theorem like_add {A : Wishes} {r : Ws} (h : Alike A r) (hA : ∀ k, ((A k).map (·.1)).Nodup) (who : Int) (s : ByteArray) (q : Int) : (dAdd r who s q).1 = (tAdd A who s q).1 ∧ Alike (tAdd A who s q).2 (dAdd r who s q).2 := by
  unfold dAdd tAdd
  by_cases hw : who < 0 ∨ 8 ≤ who
  · rw [if_pos hw, if_pos hw]; exact ⟨rfl, h⟩
  · rw [if_neg hw, if_neg hw]
    obtain ⟨k, rfl, hk⟩ := int_nat hw
    rw [Int.toNat_natCast]
    by_cases hf : lvFilter s = false
    · rw [if_pos hf, if_pos hf]; exact ⟨rfl, h⟩
    · rw [if_neg hf, if_neg hf]
      by_cases hq : q < 0 ∨ 2 < q
      · rw [if_pos hq, if_pos hq]; exact ⟨rfl, h⟩
      · rw [if_neg hq, if_neg hq, h.count hA]
        have hat := aPut_at ((k : Int), s) q r
        have hp := wPos_isSome r k s
        rw [h.get] at hp
        have hput := h.put hk s q
        by_cases hs : wPos r k s < r.length
        · have hs2 := hp.1 hs
          rw [if_pos hs, if_neg (by rw [hs2]; simp), hs2]
          unfold wPos at hs ⊢
          rw [if_pos hs] at hat
          rw [← hat]
          exact ⟨rfl, hput⟩
        · have hs2 : (aGet (A k) s).isSome = false := by
            cases hx : (aGet (A k) s).isSome with
            | false => rfl
            | true => exact absurd (hp.2 hx) hs
          rw [if_neg hs, hs2]
          by_cases hl : 16 ≤ (A k).length
          · rw [if_pos hl, if_pos ⟨rfl, hl⟩]; exact ⟨rfl, h⟩
          · rw [if_neg hl, if_neg (fun x => hl x.2)]
            unfold wPos at hs
            rw [if_neg hs] at hat
            rw [← hat]
            exact ⟨rfl, hput⟩
theorem Alike.del {A : Wishes} {r : Ws} (h : Alike A r) (k : Nat) (s : ByteArray) : Alike (upd A k (aDel (A k) s)) (aDel r ((k : Int), s)) := by
  refine ⟨?_, fun j t => ?_, fun p hp => h.who p (List.mem_filter.1 hp).1⟩
  · exact (List.filter_sublist.map _).nodup h.keys
  · unfold upd
    rw [aGet_delG]
    by_cases hj : j = k
    · subst hj
      rw [if_pos rfl, aGet_delG, h.get]
      by_cases ht : t = s
      · subst ht; rw [if_pos rfl, if_pos rfl]
      · rw [if_neg ht, if_neg (fun e => ht (Prod.mk.inj e).2)]
    · rw [if_neg hj, if_neg (fun e => hj (by have := (Prod.mk.inj e).1; omega)), h.get]
theorem like_drop {A : Wishes} {r : Ws} (h : Alike A r) (who : Int) (s : ByteArray) : (dDrop r who s).1 = (tDrop A who s).1 ∧ Alike (tDrop A who s).2 (dDrop r who s).2 := by
  unfold dDrop tDrop
  have hp := wPos_isSome r who s
  by_cases hw : who < 0 ∨ 8 ≤ who
  · rw [if_pos hw]
    have hno : ¬ wPos r who s < r.length := fun hs => by
      obtain ⟨v, hv⟩ := Option.isSome_iff_exists.1 (hp.1 hs)
      have := h.who _ (aGet_mem hv)
      simp only at this
      omega
    rw [if_neg hno]
    exact ⟨rfl, h⟩
  · rw [if_neg hw]
    obtain ⟨k, rfl, hk⟩ := int_nat hw
    rw [Int.toNat_natCast]
    rw [h.get] at hp
    by_cases hs : wPos r k s < r.length
    · rw [if_pos hs, if_pos (hp.1 hs)]
      have := aDel_at ((k : Int), s) r h.keys hs
      unfold wPos
      rw [← this]
      exact ⟨rfl, h.del k s⟩
    · rw [if_neg hs, if_neg (fun x => hs (hp.2 x))]
      exact ⟨rfl, h⟩
theorem aGet_filterG {κ α : Type} [BEq κ] [LawfulBEq κ] (l : List (κ × α)) (f : κ → Bool) (k : κ) : aGet (l.filter fun p => f p.1) k = if f k then aGet l k else none := by
  induction l with
  | nil => simp [aGet]
  | cons p l ih =>
    rw [List.filter_cons]
    by_cases hp : f p.1
    · rw [if_pos hp, aGet_cons, aGet_cons, ih]
      by_cases hk : p.1 = k
      · subst hk; simp [hp]
      · rw [beq_eq_false_iff_ne.2 hk]; simp
    · rw [if_neg hp, ih, aGet_cons]
      by_cases hk : p.1 = k
      · subst hk; simp [hp]
      · rw [beq_eq_false_iff_ne.2 hk]; simp
theorem like_clear {A : Wishes} {r : Ws} (h : Alike A r) (hA : ∀ k, ((A k).map (·.1)).Nodup) (who : Int) : (dClear r who).1 = (tClear A who).1 ∧ Alike (tClear A who).2 (dClear r who).2 := by
  unfold dClear tClear
  by_cases hw : who < 0 ∨ 8 ≤ who
  · rw [if_pos hw]
    have hno : ∀ p ∈ r, (p.1.1 == who) = false := fun p hp => by have := h.who p hp; simp; omega
    have h1 : wCount r who = 0 := List.countP_eq_zero.2 fun p hp => by simp [hno p hp]
    have h2 : (r.filter fun p => !(p.1.1 == who)) = r := List.filter_eq_self.2 fun p hp => by simp [hno p hp]
    rw [h1, h2]
    exact ⟨rfl, h⟩
  · rw [if_neg hw]
    obtain ⟨k, rfl, hk⟩ := int_nat hw
    rw [Int.toNat_natCast, h.count hA]
    refine ⟨rfl, (List.filter_sublist.map _).nodup h.keys, fun j t => ?_, fun p hp => h.who p (List.mem_filter.1 hp).1⟩
    have := aGet_filterG r (fun x => !(x.1 == (k : Int))) ((j : Int), t)
    rw [this]
    unfold upd
    simp only
    by_cases hj : j = k
    · subst hj; rw [if_pos rfl]; simp [aGet]
    · rw [if_neg hj, if_pos (by simp; omega), h.get]
end Go.Proofs.YtldagaliddgdjaaGreatDoor
