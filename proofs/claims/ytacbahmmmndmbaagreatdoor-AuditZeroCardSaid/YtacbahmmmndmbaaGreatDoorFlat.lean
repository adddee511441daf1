/- Types of plain cells (numbers, bools, texts, structs and arrays of these): what a reading says of the cells. No program in sight. -/
import Derived.Test.YtacbahmmmndmbaaGreatDoorArgs
import Derived.ChangeArms
import Derived.Deep.Slices
namespace Go.Proofs.YtacbahmmmndmbaaGreatDoor
open Go.RowKit

inductive CK where
  | int (k : IntKind)
  | bool
  | str
  | sl
def CK.fits : CK → Value → Prop
  | .int k, v => ∃ n, v = .int k n ∧ (Lit.int k n).wf = true
  | .bool, v => ∃ b, v = .bool b
  | .str, v => ∃ s : ByteArray, v = .string s ∧ s.size ≤ maxLen
  | .sl, v => ∃ a n c, v = .slice a n c
def flatFields (P : Program) (g : TypeId → Option (List CK)) : Nat → List Field → Option (List CK)
  | _, [] => some []
  | off, f :: r => match g f.type with
    | some l => if f.offset = off ∧ P.cellsOf f.type = l.length then (flatFields P g (off + l.length) r).map (l ++ ·) else none
    | none => none
/-- The kinds of a type's cells. -/
def flat (P : Program) : Nat → TypeId → Option (List CK)
  | 0, _ => none
  | n + 1, t => match P.underlying t with
    | some .bool => some [.bool]
    | some (.int k) => some [.int k]
    | some .string => some [.str]
    | some (.slice _) => some [.sl]
    | some (.struct fs) => match flatFields P (flat P n) 0 fs.toList with
      | some l => if P.cellsOf t = l.length then some l else none
      | none => none
    | _ => none
def Fits (ks : List CK) (cs : List Value) : Prop := cs.length = ks.length ∧ ∀ (i : Nat) (k : CK) (v : Value), ks[i]? = some k → cs[i]? = some v → k.fits v

section
variable {H : Type} {enc : TypeId × Value → H} {P : Program} {w : World} {base : Nat} {spare : Nat → Bool} {held : Bool}
theorem flatFields_fits {g : TypeId → Option (List CK)} {n : Nat} {cs : List Value}
    (hg : ∀ t ks cs' x, g t = some ks → DataW.trod enc P w base spare held n t cs' = some x → Fits ks cs') :
    ∀ (fs : List Field) (off : Nat) (ks : List CK), flatFields P g off fs = some ks → off + ks.length ≤ cs.length →
      (∀ f ∈ fs, ∃ x, DataW.trod enc P w base spare held n f.type ((cs.drop f.offset).take (P.cellsOf f.type)) = some x) →
      ∀ i k v, ks[i]? = some k → cs[off + i]? = some v → k.fits v
  | [], off, ks, h, _, _, i, k, v, hk, _ => by simp [flatFields] at h; subst h; simp at hk
  | f :: r, off, ks, h, hlen, hx, i, k, v, hk, hv => by
    unfold flatFields at h
    split at h
    · rename_i l hl
      split at h
      · rename_i hc
        obtain ⟨rest, hrest, rfl⟩ := Option.map_eq_some_iff.1 h
        obtain ⟨x, hx0⟩ := hx f (by simp)
        have hf := hg _ _ _ _ hl hx0
        simp only [List.length_append] at hlen
        by_cases hi : i < l.length
        · rw [List.getElem?_append_left hi] at hk
          refine hf.2 i k v hk ?_
          rw [hc.1, hc.2, List.getElem?_take_of_lt hi, List.getElem?_drop]; exact hv
        · rw [List.getElem?_append_right (by omega)] at hk
          refine flatFields_fits hg r (off + l.length) rest hrest (by omega) (fun f' hf' => hx f' (by simp [hf'])) (i - l.length) k v hk ?_
          rw [show off + l.length + (i - l.length) = off + i by omega]
          exact hv
      · cases h
    · cases h
theorem flat_fits : ∀ (n : Nat) {t : TypeId} {ks : List CK} {fuel : Nat} {cs : List Value} {x : DataW H × List MemPlace}, flat P n t = some ks → DataW.trod enc P w base spare held fuel t cs = some x → Fits ks cs
  | 0, t, ks, fuel, cs, x, h, _ => by simp [flat] at h
  | n + 1, t, ks, fuel, cs, x, h, hx => by
    unfold flat at h
    split at h
    · rename_i hu
      cases h
      obtain ⟨b, rfl, _⟩ := DataW.trod_bool hu hx
      exact ⟨rfl, fun i k v hk hv => by
        match i with
        | 0 => simp at hk hv; subst hk hv; exact ⟨b, rfl⟩
        | i + 1 => simp at hk⟩
    · rename_i k0 hu
      cases h
      obtain ⟨m, rfl, _, hw⟩ := DataW.trod_int hu hx
      exact ⟨rfl, fun i k v hk hv => by
        match i with
        | 0 => simp at hk hv; subst hk hv; exact ⟨m, rfl, hw⟩
        | i + 1 => simp at hk⟩
    · rename_i hu
      cases h
      obtain ⟨s, rfl, _, hs⟩ := DataW.trod_string hu hx
      exact ⟨rfl, fun i k v hk hv => by
        match i with
        | 0 => simp at hk hv; subst hk hv; exact ⟨s, rfl, hs⟩
        | i + 1 => simp at hk⟩
    · rename_i e0 hu
      cases h
      obtain ⟨a, n, c, rfl⟩ : ∃ a n c, cs = [.slice a n c] := by
        rcases Deep.open_slice hu hx with ⟨h1, _⟩ | ⟨a, len, cap, _, _, _, _, h1, _⟩
        · exact ⟨_, _, _, h1⟩
        · exact ⟨_, _, _, h1⟩
      exact ⟨rfl, fun i k v hk hv => by
        match i with
        | 0 => simp at hk hv; subst hk hv; exact ⟨a, n, c, rfl⟩
        | i + 1 => simp at hk⟩
    · rename_i fs hu
      split at h
      · rename_i l hl
        split at h
        · rename_i hc
          cases h
          obtain ⟨xs, m, _, _, hlen, hxs, hf⟩ := DataW.trod_struct hu hx
          refine ⟨by rw [hlen, hc], fun i k v hk hv => ?_⟩
          refine flatFields_fits (n := m) (cs := cs) (g := flat P n) (fun t ks cs' x h1 h2 => flat_fits n h1 h2) fs.toList 0 ks hl (by rw [hlen, hc]; omega) ?_ i k v hk (by rw [Nat.zero_add]; exact hv)
          intro f hfm
          obtain ⟨j, hj⟩ := List.getElem?_of_mem hfm
          have hj' : fs[j]? = some f := by simpa using hj
          have hjl : j < xs.length := by
            rw [hxs]
            exact (Array.getElem?_eq_some_iff.1 hj').1
          exact ⟨xs[j], by rw [hf j f hj', List.getElem?_eq_getElem hjl]⟩
        · cases h
      · cases h
    · cases h

theorem cells_get {a : Addr} {n : Nat} {cs : List Value} (h : w.cells? base a n = some cs) {b o : Nat} (ha : a = ⟨b, o, none⟩) {j : Nat} {v : Value} (hv : cs[j]? = some v) : w.cell? ⟨b, o + j, none⟩ = some v := by
  obtain ⟨_, hl, hc⟩ := World.cells?_some h
  have hj : j < n := by rw [← hl]; exact (List.getElem?_eq_some_iff.1 hv).1
  have := hc j hj
  rw [hv, ha] at this
  unfold Addr.add at this
  by_cases h0 : j = 0
  · subst h0; simpa using this
  · simpa [h0] using this
theorem cells_spot {a : Addr} {n : Nat} {cs : List Value} (h : w.cells? base a n = some cs) (hn : 0 < n) : a.spot = none ∧ a.block < w.heap.size := by
  obtain ⟨_, hl, hc⟩ := World.cells?_some h
  have := hc 0 hn
  obtain ⟨v, hv⟩ : ∃ v, cs[0]? = some v := ⟨cs[0], List.getElem?_eq_getElem (by omega)⟩
  rw [hv] at this
  have h1 : w.cell? a = some v := by simpa [Addr.add] using this
  exact ⟨World.cell?_spot h1, block_lt_of_cell h1⟩

/-- A slice of plain structs that came in: its elements, by their cells. -/
theorem open_flat {t e : TypeId} {fuel : Nat} {cs : List Value} {x : DataW H × List MemPlace} (ht : P.underlying t = some (.slice e)) (n sz : Nat) {ks : List CK} (hk : flat P n e = some ks) (hsz : P.cellsOf e = sz) (hpos : 0 < sz)
    (h : DataW.trod enc P w base spare held fuel t cs = some x) :
    (cs = [.slice none 0 0] ∧ x = (.nil, [])) ∨
    ∃ (a : Addr) (len cap m : Nat) (elems rest : List (DataW H)) (ps : List MemPlace) (C : Nat → List Value), cs = [.slice (some a) len cap] ∧ x = (.slice elems rest, ps) ∧ elems.length = len ∧ elems.length + rest.length = m ∧ len ≤ m ∧
      (0 < len → ∃ b o, a = ⟨b, o, none⟩ ∧ b < w.heap.size ∧ ∀ i, i < len → Fits ks (C i) ∧ ∀ j v, (C i)[j]? = some v → w.cell? ⟨b, o + i * sz + j, none⟩ = some v) := by
  rcases Deep.open_slice ht h with h0 | ⟨a, len, cap, m, n', D, Pl, rfl, hb, hl, hm, hmm, rfl, hx⟩
  · exact .inl h0
  right
  rw [hsz] at hx
  have hlm : len ≤ m := by rw [hmm]; split <;> omega
  obtain ⟨C, hC⟩ := Deep.choose_lt (α := List Value) (p := fun i cs => w.cells? base (a.add (i * sz)) sz = some cs ∧ Fits ks cs) (fun i hi => by
    obtain ⟨cs', h1, h2⟩ := hx i hi
    exact ⟨cs', h1, flat_fits n hk h2⟩)
  refine ⟨a, len, cap, m, _, _, _, C, rfl, rfl, by simp, by simp; omega, hlm, fun hpl => ?_⟩
  obtain ⟨b, o, sp⟩ := a
  have h0 := (hC 0 (by omega)).1
  have hs := cells_spot h0 hpos
  have hsp : sp = none := by simpa [Addr.add] using hs.1
  subst hsp
  refine ⟨b, o, rfl, by simpa [Addr.add] using hs.2, fun i hi => ⟨(hC i (by omega)).2, fun j v hv => ?_⟩⟩
  refine cells_get (hC i (by omega)).1 ?_ hv
  unfold Addr.add
  by_cases hi0 : i * sz = 0
  · simp [hi0]
  · simp [hi0]
end

/-- A []bool that came in: its elements. -/
def BoolRow (w : World) (a : Option Addr) (len : Nat) (bs : Nat → Bool) : Prop :=
  len ≤ 9223372036854775807 ∧ (0 < len → ∃ b o, a = some ⟨b, o, none⟩ ∧ b < w.heap.size ∧ ∀ i, i < len → w.cell? ⟨b, o + i, none⟩ = some (.bool (bs i)))
theorem open_bools {H : Type} {enc : TypeId × Value → H} {P : Program} {w : World} {fuel : Nat} {t e : TypeId} (ht : P.underlying t = some (.slice e)) (he : P.underlying e = some .bool) (hc : P.cellsOf e = 1) {a0 : Option Addr} {len0 cap0 : Nat} {x : DataW H × List MemPlace}
    (h : DataW.trod enc P w 0 (fun _ => true) true fuel t (Value.cells (.slice a0 len0 cap0)).toList = some x) : ∃ bs, BoolRow w a0 len0 bs := by
  have hk : flat P 1 e = some [.bool] := by simp [flat, he]
  have hcm : len0 ≤ maxLen := by
    rcases Deep.open_slice ht h with ⟨hcs, _⟩ | ⟨a, len, cap, m, n, D, Pl, hcs, _, hl, hm, _⟩
    · simp [Value.cells] at hcs; omega
    · simp [Value.cells] at hcs; omega
  unfold maxLen at hcm
  rcases open_flat ht 1 1 hk hc (by omega) h with ⟨hcs, _⟩ | ⟨a, len, cap, m, elems, rest, ps, C, hcs, _, _, _, _, hx⟩
  · simp [Value.cells] at hcs
    obtain ⟨rfl, rfl, rfl⟩ := hcs
    exact ⟨fun _ => false, by omega, fun hl => by omega⟩
  · simp [Value.cells] at hcs
    obtain ⟨rfl, rfl, rfl⟩ := hcs
    by_cases hl : 0 < len0
    · obtain ⟨b, o, rfl, hbl, hc2⟩ := hx hl
      obtain ⟨bs, hbs⟩ := Deep.choose_lt (α := Bool) (n := len0) (p := fun i b => C i = [.bool b]) (fun i hi => by
        obtain ⟨hlen, hf⟩ := (hc2 i hi).1
        match hCi : C i, hlen with
        | [v], _ =>
          rw [hCi] at hf
          obtain ⟨b, rfl⟩ := hf 0 _ _ rfl rfl
          exact ⟨b, rfl⟩)
      exact ⟨bs, by omega, fun _ => ⟨b, o, rfl, hbl, fun i hi => by
        have := (hc2 i hi).2 0 (.bool (bs i)) (by rw [hbs i hi]; rfl)
        simpa using this⟩⟩
    · exact ⟨fun _ => false, by omega, fun h => by omega⟩
end Go.Proofs.YtacbahmmmndmbaaGreatDoor
